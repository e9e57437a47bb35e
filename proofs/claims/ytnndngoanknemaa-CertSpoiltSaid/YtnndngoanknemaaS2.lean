/- ref01.Sum's contract: the sum bit by bit. No condition. -/
import Derived.Test.YtnndngoanknemaaS1
namespace Go.Proofs.YtnndngoanknemaaV
open Go Go.RowKit Go.Proofs.YtnndngoanknemaaA
set_option linter.unusedVariables false
set_option linter.unusedSimpArgs false
set_option maxRecDepth 100000

theorem fdiv_pow (x s m : Nat) (h : s ≤ m) : (x : Int).fdiv (2 ^ min ((s : Nat) : Int).toNat m) = ((x / 2 ^ s : Nat) : Int) := by
  rw [Int.toNat_natCast, Nat.min_eq_left h, Int.fdiv_eq_ediv_of_nonneg _ (Int.le_of_lt (Int.pow_pos (by decide)))]
  simp

noncomputable def rfPre : Code := .seq (code Try.f34).fst (.seq (code Try.f34).snd.fst (code Try.f34).snd.snd.fst.fst)
noncomputable def rfL1 : Code := (code Try.f34).snd.snd.fst.snd.inn
noncomputable def rfMid : Code := .seq (code Try.f34).snd.snd.snd.fst (code Try.f34).snd.snd.snd.snd.fst.fst
noncomputable def rfL2 : Code := (code Try.f34).snd.snd.snd.snd.fst.snd.inn
noncomputable def rfEnd : Code := (code Try.f34).snd.snd.snd.snd.snd

theorem rf_parts (call : ACall) (dr : Array Oper → Bool) (n : Nat) (ts : List AVal) (st : ASt) : aexec E 34 call dr n (code Try.f34) ts st =
    aseq (aexec E 34 call dr n rfPre ts st) fun ts st => aseq (ablock 0 (aloop (aexec E 34 call dr n rfL1) n ts st)) fun ts st =>
      aseq (aexec E 34 call dr n rfMid ts st) fun ts st => aseq (ablock 2 (aloop (aexec E 34 call dr n rfL2) n ts st)) (aexec E 34 call dr n rfEnd) := by
  have e : code Try.f34 = .seq (code Try.f34).fst (.seq (code Try.f34).snd.fst (.seq (.seq (code Try.f34).snd.snd.fst.fst (.block 0 (.loop rfL1))) (.seq (code Try.f34).snd.snd.snd.fst (.seq (.seq (code Try.f34).snd.snd.snd.snd.fst.fst (.block 2 (.loop rfL2))) rfEnd)))) := rfl
  rw [e, rfPre, rfMid]
  simp only [aexec_seq, aexec_block, aexec_loop, aseq_assoc]

structure RfI (x : AVal) (l : List UInt8) (i c : Nat) (ts : List AVal) : Prop where
  c32 : c < 2 ^ 32
  t0 : ts[0]? = some x
  t3 : ts[3]? = some (.lit (.int .u32 c))
  t4 : ts[4]? = some (.lit (.int .i64 i))
  tl : ts.length = 48

set_option maxHeartbeats 1000000 in
theorem rf_b1 (call : ACall) (dr : Array Oper → Bool) (n : Nat) {x : AVal} {l : List UInt8} {i c : Nat} {ts : List AVal} {st : ASt} (hx : BS st x l) (hll : l.length ≤ 1000) (h : RfI x l i c ts) :
    (i = 8 * l.length → ∃ ts', aexec E 34 call dr n rfL1 ts st = some (.exit 0, ts', st) ∧ ts'[3]? = some (.lit (.int .u32 c)) ∧ ts'.length = 48) ∧
    (∀ hi : i < 8 * l.length, ∃ ts', aexec E 34 call dr n rfL1 ts st = some (.normal, ts', st) ∧ RfI x l (i + 1) (refStep c (bitOf (l[i / 8]'(by omega)) (i % 8))) ts') := by
  obtain ⟨c32, t0, t3, t4, tl⟩ := h
  have hh : ∀ t, E.hint 34 t = false := fun _ => rfl
  have hm : IntKind.i64.wrap ((l.length : Int) * 8) = ((8 * l.length : Nat) : Int) := by
    simp [IntKind.wrap, IntKind.bits, IntKind.signed]; omega
  refine ⟨fun hi => ?_, fun hi => ?_⟩
  · have hd : decide ((i : Int) < ((8 * l.length : Nat) : Int)) = false := by rw [decide_eq_false_iff_not]; omega
    simp only [rfL1, code, Try.f34, Option.getD_some, Code.fst, Code.snd, Code.inn, aexec, aops, aop, Region.wanted, ayielded, aexecOp, aeval, aput, aseq, ablock, ahint, absOf, flat, nilCheckA, ANext.ofP, evals, evalPs, evalO, aresults, aresults1, aresult, aend, List.getElem?_set, List.length_set, Option.map_some, Option.bind_some, if_true, if_false, ↓reduceIte, Nat.reduceLT, Nat.reduceEqDiff, reduceCtorEq, Bool.false_eq_true, false_and, and_false, and_true, true_and, Nat.reduceAdd, Nat.reduceLeDiff, callA, List.getElem?_toArray, List.getElem?_cons_succ, List.getElem?_cons_zero, sb1, sb2, sb3, sb4, sliceU_i, sliceU_s, sliceU_p, sliceU_l, evalV, t0, t3, t4, tl, hh, bs_len hx, b_mul, hm, b_lss, hd]
    exact ⟨_, rfl, by simp only [List.getElem?_set, List.length_set, Nat.reduceLT, Nat.reduceEqDiff, ↓reduceIte, reduceCtorEq, *], by simp only [List.getElem?_set, List.length_set, Nat.reduceLT, Nat.reduceEqDiff, ↓reduceIte, reduceCtorEq, *]⟩
  · have hd : decide ((i : Int) < ((8 * l.length : Nat) : Int)) = true := by rw [decide_eq_true_eq]; omega
    have hk : i / 8 < l.length := by omega
    obtain ⟨p, i1, i2⟩ := bs_idx hx hk
    unfold byteA at i2
    have q1 : IntKind.i64.wrap ((i : Int).tdiv 8) = ((i / 8 : Nat) : Int) := by
      rw [Int.tdiv_eq_ediv_of_nonneg (by omega)]
      simp [IntKind.wrap, IntKind.bits, IntKind.signed]; omega
    have q2 : (i : Int).tmod 8 = ((i % 8 : Nat) : Int) := by rw [Int.tmod_eq_emod_of_nonneg (by omega)]; rfl
    have h8 : (0 : Int) ≤ ((i % 8 : Nat) : Int) := by omega
    have q3 := fdiv_pow (l[i / 8]).toNat (i % 8) 8 (by omega)
    have hbl := UInt8.toNat_lt l[i / 8]
    have hq : (l[i / 8]).toNat / 2 ^ (i % 8) < 256 := Nat.lt_of_le_of_lt (Nat.div_le_self _ _) hbl
    have hcv := c_int (mt := false) (st := st) (k := .u8) (n := (((l[i / 8]).toNat / 2 ^ (i % 8) : Nat) : Int)) u5 u38
    rw [wrap_u rfl (by simp only [IntKind.bits]; omega)] at hcv
    have q4 : (((l[i / 8]).toNat / 2 ^ (i % 8) : Nat) : Int).tmod 2 = ((bitOf l[i / 8] (i % 8) : Nat) : Int) := by
      rw [Int.tmod_eq_emod_of_nonneg (Int.natCast_nonneg _)]; rfl
    have q5 := fdiv_pow c 31 32 (by decide)
    have e31 : ((31 : Nat) : Int) = 31 := rfl
    rw [e31] at q5
    have q6 : IntKind.u32.wrap ((c : Int) * 2 ^ min (1 : Int).toNat 32) = ((c * 2 % 2 ^ 32 : Nat) : Int) := by
      simp [IntKind.wrap, IntKind.bits, IntKind.signed]
    have hlt : c * 2 % 2 ^ 32 < 2 ^ 32 := Nat.mod_lt _ (by decide)
    have q7 := xor_nat (k := .u32) rfl (a := c * 2 % 2 ^ 32) (b := 79764919) hlt (by decide)
    have e7 : ((79764919 : Nat) : Int) = 79764919 := rfl
    rw [e7] at q7
    have hi1 : IntKind.i64.wrap ((i : Int) + 1) = ((i + 1 : Nat) : Int) := by
      simp [IntKind.wrap, IntKind.bits, IntKind.signed]; omega
    have u32b : IntKind.u32.bits = 32 := rfl
    have u8b : IntKind.u8.bits = 8 := rfl
    have hst := refStep_lt (c := c) (bitOf l[i / 8] (i % 8))
    cases hb : ((((c / 2 ^ 31 : Nat) : Int)) != ((bitOf l[i / 8] (i % 8) : Nat) : Int)) with
    | true =>
      have hne : ¬ c / 2 ^ 31 = bitOf l[i / 8] (i % 8) := by
        intro e; rw [e, bne_self_eq_false] at hb; cases hb
      have hs : refStep c (bitOf l[i / 8] (i % 8)) = (c * 2 % 2 ^ 32) ^^^ 79764919 := by unfold refStep; rw [if_neg hne]
      simp only [rfL1, code, Try.f34, Option.getD_some, Code.fst, Code.snd, Code.inn, aexec, aops, aop, Region.wanted, ayielded, aexecOp, aeval, aput, aseq, ablock, ahint, absOf, flat, nilCheckA, ANext.ofP, evals, evalPs, evalO, aresults, aresults1, aresult, aend, List.getElem?_set, List.length_set, Option.map_some, Option.bind_some, if_true, if_false, ↓reduceIte, Nat.reduceLT, Nat.reduceEqDiff, reduceCtorEq, Bool.false_eq_true, false_and, and_false, and_true, true_and, Nat.reduceAdd, Nat.reduceLeDiff, callA, List.getElem?_toArray, List.getElem?_cons_succ, List.getElem?_cons_zero, sb1, sb2, sb3, sb4, sliceU_i, sliceU_s, sliceU_p, sliceU_l, evalV, t0, t3, t4, tl, hh, bs_len hx, b_mul, hm, b_lss, hd, b_quo _ _ _ _ _ _ _ (show (8 : Int) ≠ 0 by decide), q1, i1, i2, b_rem _ _ _ _ _ _ _ (show (8 : Int) ≠ 0 by decide), q2, b_shr _ _ _ _ _ _ _ _ h8, u8b, q3, hcv, ANext.ofP,
        b_rem _ _ _ _ _ _ _ (show (2 : Int) ≠ 0 by decide), q4, b_shr _ _ _ _ _ _ _ _ (show (0 : Int) ≤ 31 by decide), u32b, q5, b_shl _ _ _ _ _ _ _ _ (show (0 : Int) ≤ 1 by decide), q6, b_neq, hb, b_xor, q7, b_add, hi1]
      exact ⟨_, rfl, ⟨hst, by simp only [List.getElem?_set, List.length_set, Nat.reduceLT, Nat.reduceEqDiff, ↓reduceIte, reduceCtorEq, *], by rw [hs]; simp only [List.getElem?_set, List.length_set, Nat.reduceLT, Nat.reduceEqDiff, ↓reduceIte, reduceCtorEq, *], by simp only [List.getElem?_set, List.length_set, Nat.reduceLT, Nat.reduceEqDiff, ↓reduceIte, reduceCtorEq, *], by simp only [List.getElem?_set, List.length_set, Nat.reduceLT, Nat.reduceEqDiff, ↓reduceIte, reduceCtorEq, *]⟩⟩
    | false =>
      have he : c / 2 ^ 31 = bitOf l[i / 8] (i % 8) := by
        rw [bne, Bool.not_eq_false', beq_iff_eq] at hb
        exact_mod_cast hb
      have hs : refStep c (bitOf l[i / 8] (i % 8)) = c * 2 % 2 ^ 32 := by unfold refStep; rw [if_pos he]
      simp only [rfL1, code, Try.f34, Option.getD_some, Code.fst, Code.snd, Code.inn, aexec, aops, aop, Region.wanted, ayielded, aexecOp, aeval, aput, aseq, ablock, ahint, absOf, flat, nilCheckA, ANext.ofP, evals, evalPs, evalO, aresults, aresults1, aresult, aend, List.getElem?_set, List.length_set, Option.map_some, Option.bind_some, if_true, if_false, ↓reduceIte, Nat.reduceLT, Nat.reduceEqDiff, reduceCtorEq, Bool.false_eq_true, false_and, and_false, and_true, true_and, Nat.reduceAdd, Nat.reduceLeDiff, callA, List.getElem?_toArray, List.getElem?_cons_succ, List.getElem?_cons_zero, sb1, sb2, sb3, sb4, sliceU_i, sliceU_s, sliceU_p, sliceU_l, evalV, t0, t3, t4, tl, hh, bs_len hx, b_mul, hm, b_lss, hd, b_quo _ _ _ _ _ _ _ (show (8 : Int) ≠ 0 by decide), q1, i1, i2, b_rem _ _ _ _ _ _ _ (show (8 : Int) ≠ 0 by decide), q2, b_shr _ _ _ _ _ _ _ _ h8, u8b, q3, hcv, ANext.ofP,
        b_rem _ _ _ _ _ _ _ (show (2 : Int) ≠ 0 by decide), q4, b_shr _ _ _ _ _ _ _ _ (show (0 : Int) ≤ 31 by decide), u32b, q5, b_shl _ _ _ _ _ _ _ _ (show (0 : Int) ≤ 1 by decide), q6, b_neq, hb, b_add, hi1]
      exact ⟨_, rfl, ⟨hst, by simp only [List.getElem?_set, List.length_set, Nat.reduceLT, Nat.reduceEqDiff, ↓reduceIte, reduceCtorEq, *], by rw [hs]; simp only [List.getElem?_set, List.length_set, Nat.reduceLT, Nat.reduceEqDiff, ↓reduceIte, reduceCtorEq, *], by simp only [List.getElem?_set, List.length_set, Nat.reduceLT, Nat.reduceEqDiff, ↓reduceIte, reduceCtorEq, *], by simp only [List.getElem?_set, List.length_set, Nat.reduceLT, Nat.reduceEqDiff, ↓reduceIte, reduceCtorEq, *]⟩⟩

theorem rf_b2 (call : ACall) (dr : Array Oper → Bool) (n : Nat) {c i : Nat} {ts : List AVal} {st : ASt} (hc : c < 2 ^ 32) (h3 : ts[3]? = some (.lit (.int .u32 c))) (h7 : ts[7]? = some (.lit (.int .u32 (revIt c i)))) (h8 : ts[8]? = some (.lit (.int .i64 i))) (tl : ts.length = 48) :
    (i = 32 → ∃ ts', aexec E 34 call dr n rfL2 ts st = some (.exit 2, ts', st) ∧ ts'[7]? = some (.lit (.int .u32 (revIt c i))) ∧ ts'.length = 48) ∧
    (i < 32 → ∃ ts', aexec E 34 call dr n rfL2 ts st = some (.normal, ts', st) ∧ ts'[3]? = some (.lit (.int .u32 c)) ∧ ts'[7]? = some (.lit (.int .u32 (revIt c (i + 1)))) ∧ ts'[8]? = some (.lit (.int .i64 (i + 1 : Nat))) ∧ ts'.length = 48) := by
  have hh : ∀ t, E.hint 34 t = false := fun _ => rfl
  refine ⟨fun hi => ?_, fun hi => ?_⟩
  · have hd : decide ((i : Int) < 32) = false := by rw [decide_eq_false_iff_not]; omega
    simp only [rfL2, code, Try.f34, Option.getD_some, Code.fst, Code.snd, Code.inn, aexec, aops, aop, Region.wanted, ayielded, aexecOp, aeval, aput, aseq, ablock, ahint, absOf, flat, nilCheckA, ANext.ofP, evals, evalPs, evalO, aresults, aresults1, aresult, aend, List.getElem?_set, List.length_set, Option.map_some, Option.bind_some, if_true, if_false, ↓reduceIte, Nat.reduceLT, Nat.reduceEqDiff, reduceCtorEq, Bool.false_eq_true, false_and, and_false, and_true, true_and, Nat.reduceAdd, Nat.reduceLeDiff, callA, List.getElem?_toArray, List.getElem?_cons_succ, List.getElem?_cons_zero, sb1, sb2, sb3, sb4, sliceU_i, sliceU_s, sliceU_p, sliceU_l, evalV, h3, h7, h8, tl, hh, b_lss, hd]
    exact ⟨_, rfl, by simp only [List.getElem?_set, List.length_set, Nat.reduceLT, Nat.reduceEqDiff, ↓reduceIte, reduceCtorEq, *], by simp only [List.getElem?_set, List.length_set, Nat.reduceLT, Nat.reduceEqDiff, ↓reduceIte, reduceCtorEq, *]⟩
  · have hd : decide ((i : Int) < 32) = true := by rw [decide_eq_true_eq]; omega
    have hr := revIt_lt c i
    have hp : 2 ^ i ≤ 2 ^ 31 := Nat.pow_le_pow_right (by decide) (by omega)
    have q6 : IntKind.u32.wrap ((revIt c i : Int) * 2 ^ min (1 : Int).toNat 32) = ((revIt c i * 2 : Nat) : Int) := by
      simp [IntKind.wrap, IntKind.bits, IntKind.signed]; omega
    have h0 : (0 : Int) ≤ ((i : Nat) : Int) := by omega
    have q3 := fdiv_pow c i 32 (by omega)
    have q4 : ((c / 2 ^ i : Nat) : Int).tmod 2 = ((c / 2 ^ i % 2 : Nat) : Int) := by
      rw [Int.tmod_eq_emod_of_nonneg (Int.natCast_nonneg _)]; rfl
    have q7 := or_nat (k := .u32) rfl (a := revIt c i * 2) (b := c / 2 ^ i % 2) (by simp only [IntKind.bits]; omega) (by simp only [IntKind.bits]; omega)
    have e7 : revIt c i * 2 ||| c / 2 ^ i % 2 = revIt c (i + 1) := by
      rw [Nat.or_comm]
      have := Nat.two_pow_add_eq_or_of_lt (show c / 2 ^ i % 2 < 2 ^ 1 by omega) (revIt c i)
      rw [Nat.or_comm, revIt, Nat.mul_comm (revIt c i) 2]
      simpa using this.symm
    rw [e7] at q7
    have hi1 : IntKind.i64.wrap ((i : Int) + 1) = ((i + 1 : Nat) : Int) := by
      simp [IntKind.wrap, IntKind.bits, IntKind.signed]; omega
    have u32b : IntKind.u32.bits = 32 := rfl
    simp only [rfL2, code, Try.f34, Option.getD_some, Code.fst, Code.snd, Code.inn, aexec, aops, aop, Region.wanted, ayielded, aexecOp, aeval, aput, aseq, ablock, ahint, absOf, flat, nilCheckA, ANext.ofP, evals, evalPs, evalO, aresults, aresults1, aresult, aend, List.getElem?_set, List.length_set, Option.map_some, Option.bind_some, if_true, if_false, ↓reduceIte, Nat.reduceLT, Nat.reduceEqDiff, reduceCtorEq, Bool.false_eq_true, false_and, and_false, and_true, true_and, Nat.reduceAdd, Nat.reduceLeDiff, callA, List.getElem?_toArray, List.getElem?_cons_succ, List.getElem?_cons_zero, sb1, sb2, sb3, sb4, sliceU_i, sliceU_s, sliceU_p, sliceU_l, evalV, h3, h7, h8, tl, hh, b_lss, hd, b_shl _ _ _ _ _ _ _ _ (show (0 : Int) ≤ 1 by decide), u32b, q6, b_shr _ _ _ _ _ _ _ _ h0, q3, b_rem _ _ _ _ _ _ _ (show (2 : Int) ≠ 0 by decide), q4, b_or, q7, b_add, hi1]
    exact ⟨_, rfl, by simp only [List.getElem?_set, List.length_set, Nat.reduceLT, Nat.reduceEqDiff, ↓reduceIte, reduceCtorEq, *], by simp only [List.getElem?_set, List.length_set, Nat.reduceLT, Nat.reduceEqDiff, ↓reduceIte, reduceCtorEq, *], by simp only [List.getElem?_set, List.length_set, Nat.reduceLT, Nat.reduceEqDiff, ↓reduceIte, reduceCtorEq, *], by simp only [List.getElem?_set, List.length_set, Nat.reduceLT, Nat.reduceEqDiff, ↓reduceIte, reduceCtorEq, *]⟩

theorem rf_l1 (call : ACall) (dr : Array Oper → Bool) (n : Nat) {x : AVal} {l : List UInt8} {ts : List AVal} {st : ASt} (hx : BS st x l) (hll : l.length ≤ 1000) (hn : 8 * l.length < n) (h : RfI x l 0 4294967295 ts) :
    ∃ ts', aloop (aexec E 34 call dr n rfL1) n ts st = some (.exit 0, ts', st) ∧ ts'[3]? = some (.lit (.int .u32 ((bitsL l).foldl refStep 4294967295 : Nat))) ∧ ts'.length = 48 := by
  obtain ⟨e, ts', s', h1, rfl, rfl, h2⟩ := aloop_rule (b := aexec E 34 call dr n rfL1)
    (I := fun k ts s => s = st ∧ ∃ i, k + i = 8 * l.length ∧ RfI x l i (((bitsL l).take i).foldl refStep 4294967295) ts)
    (Q := fun e ts' s => s = st ∧ e = .exit 0 ∧ ts'[3]? = some (.lit (.int .u32 ((bitsL l).foldl refStep 4294967295 : Nat))) ∧ ts'.length = 48)
    (step := by
      rintro k ts s ⟨hs, i, hi, hI⟩
      rw [hs]
      obtain ⟨ha, hb⟩ := rf_b1 call dr n hx hll hI
      by_cases he : i = 8 * l.length
      · obtain ⟨ts', e, a3, al⟩ := ha he
        rw [he, ← bits_length, List.take_length] at a3
        exact .inr ⟨_, ts', _, e, by simp, rfl, rfl, a3, al⟩
      · obtain ⟨ts', e, hI'⟩ := hb (by omega)
        refine .inl ⟨ts', _, e, k - 1, by omega, rfl, i + 1, by omega, ?_⟩
        have hlt : i < (bitsL l).length := by rw [bits_length]; omega
        have hg := bits_get l i (by omega)
        rw [List.getElem?_eq_getElem hlt] at hg
        rw [List.take_succ_eq_append_getElem hlt, List.foldl_append, List.foldl_cons, List.foldl_nil, Option.some.inj hg]
        exact hI')
    n (8 * l.length) ts st ⟨rfl, 0, by omega, h⟩ hn
  exact ⟨ts', h1, h2⟩

theorem rf_l2 (call : ACall) (dr : Array Oper → Bool) (n : Nat) {c : Nat} {ts : List AVal} {st : ASt} (hn : 32 < n) (hc : c < 2 ^ 32) (h3 : ts[3]? = some (.lit (.int .u32 c))) (h7 : ts[7]? = some (.lit (.int .u32 (0 : Nat)))) (h8 : ts[8]? = some (.lit (.int .i64 (0 : Nat)))) (tl : ts.length = 48) :
    ∃ ts', aloop (aexec E 34 call dr n rfL2) n ts st = some (.exit 2, ts', st) ∧ ts'[7]? = some (.lit (.int .u32 (revIt c 32))) ∧ ts'.length = 48 := by
  obtain ⟨e, ts', s', h1, rfl, rfl, h2⟩ := aloop_rule (b := aexec E 34 call dr n rfL2)
    (I := fun k ts s => s = st ∧ ∃ i, k + i = 32 ∧ ts[3]? = some (.lit (.int .u32 c)) ∧ ts[7]? = some (.lit (.int .u32 (revIt c i))) ∧ ts[8]? = some (.lit (.int .i64 i)) ∧ ts.length = 48)
    (Q := fun e ts' s => s = st ∧ e = .exit 2 ∧ ts'[7]? = some (.lit (.int .u32 (revIt c 32))) ∧ ts'.length = 48)
    (step := by
      rintro k ts s ⟨hs, i, hi, a3, a7, a8, al⟩
      rw [hs]
      obtain ⟨ha, hb⟩ := rf_b2 call dr n (st := st) hc a3 a7 a8 al
      by_cases he : i = 32
      · obtain ⟨ts', e, b7, bl⟩ := ha he
        exact .inr ⟨_, ts', _, e, by simp, rfl, rfl, by rw [b7, he], bl⟩
      · obtain ⟨ts', e, b3, b7, b8, bl⟩ := hb (by omega)
        exact .inl ⟨ts', _, e, k - 1, by omega, rfl, i + 1, by omega, b3, b7, b8, bl⟩)
    n 32 ts st ⟨rfl, 0, by omega, h3, h7, h8, tl⟩ hn
  exact ⟨ts', h1, h2⟩

theorem refsum_run {x : AVal} {l : List UInt8} {st : ASt} (hx : BS st x l) (hll : l.length ≤ 1000) : RetN E (8 * l.length + 34) 34 [x] st (.lit (.int .u32 (sumN l : Nat))) st := by
  refine RetN.of (n := 8 * l.length + 33 + 1) ?_
  rw [run_code (fn := Try.f34) rfl rfl, rf_parts]
  obtain ⟨ts, et, t0, tl⟩ : ∃ ts : List AVal, ([x] ++ List.replicate (Try.f34.ntmps - [x].length) .undef) = ts ∧ ts[0]? = some x ∧ ts.length = 48 := ⟨_, rfl, rfl, rfl⟩
  rw [et]
  have hres : ∀ ts st v, ts[2]? = some v → aresults E Try.f34 ts st = some v := by
    intro ts st v h
    unfold aresults
    simp only [Try.f34, aresults1, aresult, h]
  have hh : ∀ t, E.hint 34 t = false := fun _ => rfl
  generalize hN : 8 * l.length + 33 = N
  obtain ⟨ts1, e1, hI⟩ : ∃ ts', aexec E 34 (run E N) (drawB E 34) N rfPre ts st = some (.normal, ts', st) ∧ RfI x l 0 4294967295 ts' := by
    simp only [rfPre, code, Try.f34, Option.getD_some, Code.fst, Code.snd, Code.inn, aexec, aops, aop, Region.wanted, ayielded, aexecOp, aeval, aput, aseq, ablock, ahint, absOf, flat, nilCheckA, ANext.ofP, evals, evalPs, evalO, aresults, aresults1, aresult, aend, List.getElem?_set, List.length_set, Option.map_some, Option.bind_some, if_true, if_false, ↓reduceIte, Nat.reduceLT, Nat.reduceEqDiff, reduceCtorEq, Bool.false_eq_true, false_and, and_false, and_true, true_and, Nat.reduceAdd, Nat.reduceLeDiff, callA, List.getElem?_toArray, List.getElem?_cons_succ, List.getElem?_cons_zero, sb1, sb2, sb3, sb4, sliceU_i, sliceU_s, sliceU_p, sliceU_l, evalV, t0, tl, hh]
    exact ⟨_, rfl, ⟨by decide, by simp only [List.getElem?_set, List.length_set, Nat.reduceLT, Nat.reduceEqDiff, ↓reduceIte, reduceCtorEq, *], by simp only [List.getElem?_set, List.length_set, Nat.reduceLT, Nat.reduceEqDiff, ↓reduceIte, reduceCtorEq, *]; rfl, by simp only [List.getElem?_set, List.length_set, Nat.reduceLT, Nat.reduceEqDiff, ↓reduceIte, reduceCtorEq, *]; rfl, by simp only [List.getElem?_set, List.length_set, Nat.reduceLT, Nat.reduceEqDiff, ↓reduceIte, reduceCtorEq, *]⟩⟩
  obtain ⟨ts2, e2, a3, al⟩ := rf_l1 (run E N) (drawB E 34) N hx hll (by omega) hI
  obtain ⟨ts3, e3, b3, b7, b8, bl⟩ : ∃ ts', aexec E 34 (run E N) (drawB E 34) N rfMid ts2 st = some (.normal, ts', st) ∧ ts'[3]? = some (.lit (.int .u32 ((bitsL l).foldl refStep 4294967295 : Nat))) ∧ ts'[7]? = some (.lit (.int .u32 (0 : Nat))) ∧ ts'[8]? = some (.lit (.int .i64 (0 : Nat))) ∧ ts'.length = 48 := by
    simp only [rfMid, code, Try.f34, Option.getD_some, Code.fst, Code.snd, Code.inn, aexec, aops, aop, Region.wanted, ayielded, aexecOp, aeval, aput, aseq, ablock, ahint, absOf, flat, nilCheckA, ANext.ofP, evals, evalPs, evalO, aresults, aresults1, aresult, aend, List.getElem?_set, List.length_set, Option.map_some, Option.bind_some, if_true, if_false, ↓reduceIte, Nat.reduceLT, Nat.reduceEqDiff, reduceCtorEq, Bool.false_eq_true, false_and, and_false, and_true, true_and, Nat.reduceAdd, Nat.reduceLeDiff, callA, List.getElem?_toArray, List.getElem?_cons_succ, List.getElem?_cons_zero, sb1, sb2, sb3, sb4, sliceU_i, sliceU_s, sliceU_p, sliceU_l, evalV, a3, al, hh]
    exact ⟨_, rfl, by simp only [List.getElem?_set, List.length_set, Nat.reduceLT, Nat.reduceEqDiff, ↓reduceIte, reduceCtorEq, *], by simp only [List.getElem?_set, List.length_set, Nat.reduceLT, Nat.reduceEqDiff, ↓reduceIte, reduceCtorEq, *]; rfl, by simp only [List.getElem?_set, List.length_set, Nat.reduceLT, Nat.reduceEqDiff, ↓reduceIte, reduceCtorEq, *]; rfl, by simp only [List.getElem?_set, List.length_set, Nat.reduceLT, Nat.reduceEqDiff, ↓reduceIte, reduceCtorEq, *]⟩
  have hM : Rev 4294967295 4294967295 := by unfold Rev; decide
  have hc := (rev_fold (bitsL l) 4294967295 4294967295 (bits_lt l) (by decide) (by decide) hM).2
  obtain ⟨ts4, e4, c7, cl⟩ := rf_l2 (run E N) (drawB E 34) N (st := st) (by omega) hc b3 b7 b8 bl
  have hr := revIt_lt ((bitsL l).foldl refStep 4294967295) 32
  have q7 := xor_nat (k := .u32) rfl (a := revIt ((bitsL l).foldl refStep 4294967295) 32) (b := 4294967295) hr (by decide)
  rw [ref_sum] at q7
  have e7 : ((4294967295 : Nat) : Int) = 4294967295 := rfl
  rw [e7] at q7
  obtain ⟨ts5, e5, d2⟩ : ∃ ts', aexec E 34 (run E N) (drawB E 34) N rfEnd ts4 st = some (.ret, ts', st) ∧ ts'[2]? = some (.lit (.int .u32 (sumN l : Nat))) := by
    simp only [rfEnd, code, Try.f34, Option.getD_some, Code.fst, Code.snd, Code.inn, aexec, aops, aop, Region.wanted, ayielded, aexecOp, aeval, aput, aseq, ablock, ahint, absOf, flat, nilCheckA, ANext.ofP, evals, evalPs, evalO, aresults, aresults1, aresult, aend, List.getElem?_set, List.length_set, Option.map_some, Option.bind_some, if_true, if_false, ↓reduceIte, Nat.reduceLT, Nat.reduceEqDiff, reduceCtorEq, Bool.false_eq_true, false_and, and_false, and_true, true_and, Nat.reduceAdd, Nat.reduceLeDiff, callA, List.getElem?_toArray, List.getElem?_cons_succ, List.getElem?_cons_zero, sb1, sb2, sb3, sb4, sliceU_i, sliceU_s, sliceU_p, sliceU_l, evalV, c7, cl, hh, b_xor, q7]
    exact ⟨_, rfl, by simp only [List.getElem?_set, List.length_set, Nat.reduceLT, Nat.reduceEqDiff, ↓reduceIte, reduceCtorEq, *]⟩
  simp only [e1, aseq, e2, ablock, if_true, e3, e4, e5, aend, hres _ _ _ d2, Option.map_some]

end Go.Proofs.YtnndngoanknemaaV
