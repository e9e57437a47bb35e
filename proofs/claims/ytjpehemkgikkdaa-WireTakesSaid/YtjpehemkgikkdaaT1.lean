/- WireTakes: a number at the beginning of bytes, by definition. No condition. -/
import Derived.Test.YtjpehemkgikkdaaRA
namespace Go.Proofs.YtjpehemkgikkdaaV
open Go Go.RowKit Go.Proofs.YtjpehemkgikkdaaA
set_option linter.unusedVariables false
set_option linter.unusedSimpArgs false
set_option maxRecDepth 100000

noncomputable def nmBody : Code := (code Try.f41).snd.snd.fst.snd.inn
noncomputable def nmPre : Code := .seq (code Try.f41).fst (.seq (code Try.f41).snd.fst (code Try.f41).snd.snd.fst.fst)
noncomputable def nmEnd : Code := (code Try.f41).snd.snd.snd

theorem nm_parts (call : ACall) (dr : Array Oper → Bool) (n : Nat) (ts : List AVal) (st : ASt) : aexec E 41 call dr n (code Try.f41) ts st =
    aseq (aexec E 41 call dr n nmPre ts st) fun ts st => aseq (ablock 0 (aloop (aexec E 41 call dr n nmBody) n ts st)) (aexec E 41 call dr n nmEnd) := by
  have e : code Try.f41 = .seq (code Try.f41).fst (.seq (code Try.f41).snd.fst (.seq (.seq (code Try.f41).snd.snd.fst.fst (.block 0 (.loop nmBody))) nmEnd)) := rfl
  rw [e, nmPre]
  simp only [aexec_seq, aexec_block, aexec_loop, aseq_assoc]

structure NmI (x : AVal) (l : List UInt8) (i n : Nat) (ts : List AVal) : Prop where
  i9 : i ≤ 9
  n64 : n < 2 ^ (7 * i)
  t5 : ts[5]? = some (.lit (.int .u64 n))
  t8 : ts[8]? = some x
  t9 : ts[9]? = some (.lit (.int .i64 l.length))
  t10 : ts[10]? = some (.lit (.int .i64 i))
  tl : ts.length = 43

theorem nm_arith {n i : Nat} {c : UInt8} (hi : i ≤ 9) (hn : n < 2 ^ (7 * i)) (hb : ¬ ((7 * i = 63 ∧ 1 < c.toNat) ∨ (0 < 7 * i ∧ c.toNat = 0))) :
    (c.toNat % 128) * 2 ^ (7 * i) < 2 ^ 64 ∧ n + (c.toNat % 128) * 2 ^ (7 * i) < 2 ^ 64 ∧ n + (c.toNat % 128) * 2 ^ (7 * i) = nuN n (7 * i) c ∧ n + (c.toNat % 128) * 2 ^ (7 * i) < 2 ^ (7 * (i + 1)) := by
  have h0 : c.toNat % 128 ≤ 127 := by omega
  have hp : 2 ^ (7 * (i + 1)) = 128 * 2 ^ (7 * i) := by rw [Nat.mul_add, Nat.pow_add, Nat.mul_comm]
  have h4 : n + (c.toNat % 128) * 2 ^ (7 * i) < 2 ^ (7 * (i + 1)) := by
    rw [hp]
    calc n + (c.toNat % 128) * 2 ^ (7 * i) < 2 ^ (7 * i) + 127 * 2 ^ (7 * i) := Nat.add_lt_add_of_lt_of_le hn (Nat.mul_le_mul_right _ h0)
      _ = 128 * 2 ^ (7 * i) := by omega
  have h2 : n + (c.toNat % 128) * 2 ^ (7 * i) < 2 ^ 64 := by
    by_cases e : i = 9
    · subst e
      have h1 : c.toNat ≤ 1 := by
        by_cases h1 : 1 < c.toNat
        · exact absurd (.inl ⟨rfl, h1⟩) hb
        · omega
      have h3 : c.toNat % 128 ≤ 1 := by omega
      have : (c.toNat % 128) * 2 ^ (7 * 9) ≤ 1 * 2 ^ (7 * 9) := Nat.mul_le_mul_right _ h3
      have e63 : 2 ^ (7 * 9) = 9223372036854775808 := by decide
      rw [e63] at this hn ⊢
      omega
    · refine Nat.lt_of_lt_of_le h4 (Nat.pow_le_pow_right (by decide) (by omega))
  refine ⟨by omega, h2, ?_, h4⟩
  unfold nuN
  rw [or_add hn, and_127]

theorem nm_exit (call : ACall) (dr : Array Oper → Bool) (m : Nat) {x : AVal} {l : List UInt8} {i n : Nat} {ts : List AVal} {st : ASt} (h : NmI x l i n ts) (hi : i = l.length) :
    ∃ ts', aexec E 41 call dr m nmBody ts st = some (.exit 0, ts', st) ∧ ts'.length = 43 := by
  obtain ⟨i9, n64, t5, t8, t9, t10, tl⟩ := h
  have hh : ∀ t, E.hint 41 t = false := fun _ => rfl
  have hd : decide ((i : Int) < l.length) = false := by rw [decide_eq_false_iff_not]; omega
  simp only [nmBody, code, Try.f41, Option.getD_some, Code.fst, Code.snd, Code.inn, aexec, aops, aop, Region.wanted, ayielded, aexecOp, aeval, aput, aseq, ablock, ahint, absOf, flat, nilCheckA, ANext.ofP, evals, evalPs, evalO, aresults, aresults1, aresult, aend, List.getElem?_set, List.length_set, Option.map_some, Option.bind_some, if_true, if_false, ↓reduceIte, Nat.reduceLT, Nat.reduceEqDiff, reduceCtorEq, Bool.false_eq_true, false_and, and_false, and_true, true_and, Nat.reduceAdd, Nat.reduceLeDiff, callA, List.getElem?_toArray, List.getElem?_cons_succ, List.getElem?_cons_zero, sb1, sb2, sb3, sb4, t5, t8, t9, t10, tl, hh, b_lss, hd]
  exact ⟨_, rfl, by simp only [List.getElem?_set, List.length_set, Nat.reduceLT, Nat.reduceEqDiff, ↓reduceIte, reduceCtorEq, *]⟩

set_option maxHeartbeats 1000000 in
theorem nm_bad (call : ACall) (dr : Array Oper → Bool) (m : Nat) {x : AVal} {l : List UInt8} {i n : Nat} {ts : List AVal} {st : ASt} (hx : IsB x l) (h : NmI x l i n ts) (hi : i < l.length)
    (hb : (7 * i = 63 ∧ 1 < l[i].toNat) ∨ (0 < 7 * i ∧ l[i].toNat = 0)) :
    ∃ ts', aexec E 41 call dr m nmBody ts st = some (.ret, ts', st) ∧ ts'[2]? = some (.lit (.int .u64 (0 : Nat))) ∧ ts'[3]? = some (.lit (.int .i64 (0 : Nat))) ∧ ts'[4]? = some (.lit (.int .i64 (1 : Nat))) := by
  obtain ⟨i9, n64, t5, t8, t9, t10, tl⟩ := h
  have hh : ∀ t, E.hint 41 t = false := fun _ => rfl
  have hd : decide ((i : Int) < l.length) = true := by rw [decide_eq_true_eq]; omega
  obtain ⟨p1, i1, i2⟩ := bs_idx (st := st) (.inl hx) hi
  unfold byteA at i2
  have b3 : decide (((i : Nat) : Int) > 0) = true := by rw [decide_eq_true_eq]; omega
  cases b4 : (((l[i].toNat : Nat) : Int) == 0) with
  | true =>
    simp only [AVal.undef, sbn, sbn', nmBody, code, Try.f41, Option.getD_some, Code.fst, Code.snd, Code.inn, aexec, aops, aop, Region.wanted, ayielded, aexecOp, aeval, aput, aseq, ablock, ahint, absOf, flat, nilCheckA, ANext.ofP, evals, evalPs, evalO, aresults, aresults1, aresult, aend, List.getElem?_set, List.length_set, Option.map_some, Option.bind_some, if_true, if_false, ↓reduceIte, Nat.reduceLT, Nat.reduceEqDiff, reduceCtorEq, Bool.false_eq_true, false_and, and_false, and_true, true_and, Nat.reduceAdd, Nat.reduceLeDiff, callA, List.getElem?_toArray, List.getElem?_cons_succ, List.getElem?_cons_zero, sb1, sb2, sb3, sb4, t5, t8, t9, t10, tl, hh, b_lss, hd, i1, i2, b_gtr, b3, b_eql, b4]
    exact ⟨_, rfl, by simp only [List.getElem?_set, List.length_set, Nat.reduceLT, Nat.reduceEqDiff, ↓reduceIte, reduceCtorEq, *]; rfl, by simp only [List.getElem?_set, List.length_set, Nat.reduceLT, Nat.reduceEqDiff, ↓reduceIte, reduceCtorEq, *]; rfl, by simp only [List.getElem?_set, List.length_set, Nat.reduceLT, Nat.reduceEqDiff, ↓reduceIte, reduceCtorEq, *]; rfl⟩
  | false =>
    have h0 : l[i].toNat ≠ 0 := by rw [beq_eq_false_iff_ne] at b4; omega
    have h9 : i = 9 ∧ 1 < l[i].toNat := by
      rcases hb with h1 | h1
      · exact ⟨by omega, h1.2⟩
      · exact absurd h1.2 h0
    have b1 : (((i : Nat) : Int) == 9) = true := by rw [h9.1]; rfl
    have b2 : decide (((l[i].toNat : Nat) : Int) > 1) = true := by rw [decide_eq_true_eq]; omega
    simp only [AVal.undef, sbn, sbn', nmBody, code, Try.f41, Option.getD_some, Code.fst, Code.snd, Code.inn, aexec, aops, aop, Region.wanted, ayielded, aexecOp, aeval, aput, aseq, ablock, ahint, absOf, flat, nilCheckA, ANext.ofP, evals, evalPs, evalO, aresults, aresults1, aresult, aend, List.getElem?_set, List.length_set, Option.map_some, Option.bind_some, if_true, if_false, ↓reduceIte, Nat.reduceLT, Nat.reduceEqDiff, reduceCtorEq, Bool.false_eq_true, false_and, and_false, and_true, true_and, Nat.reduceAdd, Nat.reduceLeDiff, callA, List.getElem?_toArray, List.getElem?_cons_succ, List.getElem?_cons_zero, sb1, sb2, sb3, sb4, t5, t8, t9, t10, tl, hh, b_lss, hd, i1, i2, b_gtr, b3, b_eql, b4, b1, b2]
    exact ⟨_, rfl, by simp only [List.getElem?_set, List.length_set, Nat.reduceLT, Nat.reduceEqDiff, ↓reduceIte, reduceCtorEq, *]; rfl, by simp only [List.getElem?_set, List.length_set, Nat.reduceLT, Nat.reduceEqDiff, ↓reduceIte, reduceCtorEq, *]; rfl, by simp only [List.getElem?_set, List.length_set, Nat.reduceLT, Nat.reduceEqDiff, ↓reduceIte, reduceCtorEq, *]; rfl⟩

set_option maxHeartbeats 1000000 in
theorem nm_next (call : ACall) (dr : Array Oper → Bool) (m : Nat) {x : AVal} {l : List UInt8} {i n : Nat} {ts : List AVal} {st : ASt} (hx : IsB x l) (h : NmI x l i n ts) (hi : i < l.length)
    (hb : ¬ ((7 * i = 63 ∧ 1 < l[i].toNat) ∨ (0 < 7 * i ∧ l[i].toNat = 0))) :
    (128 ≤ l[i].toNat → ∃ ts', aexec E 41 call dr m nmBody ts st = some (.normal, ts', st) ∧ NmI x l (i + 1) (nuN n (7 * i) l[i]) ts') ∧
    (l[i].toNat < 128 → ∃ ts', aexec E 41 call dr m nmBody ts st = some (.ret, ts', st) ∧ ts'[2]? = some (.lit (.int .u64 (nuN n (7 * i) l[i] : Nat))) ∧ ts'[3]? = some (.lit (.int .i64 (i + 1 : Nat))) ∧ ts'[4]? = some (.lit (.int .i64 (0 : Nat)))) := by
  obtain ⟨i9, n64, t5, t8, t9, t10, tl⟩ := h
  have hh : ∀ t, E.hint 41 t = false := fun _ => rfl
  have hd : decide ((i : Int) < l.length) = true := by rw [decide_eq_true_eq]; omega
  obtain ⟨p1, i1, i2⟩ := bs_idx (st := st) (.inl hx) hi
  unfold byteA at i2
  obtain ⟨a1, a2, a3, a4⟩ := nm_arith i9 n64 hb
  rw [← a3]
  have q1 : ((l[i].toNat : Nat) : Int).tmod 128 = ((l[i].toNat % 128 : Nat) : Int) := by rw [Int.tmod_eq_emod_of_nonneg (by omega)]; rfl
  have hcv := c_int (mt := false) (st := st) (k := .u8) (n := ((l[i].toNat % 128 : Nat) : Int)) u5 u22
  rw [wrap_u rfl (by simp only [IntKind.bits]; omega)] at hcv
  have q2 : IntKind.i64.wrap (7 * (i : Int)) = ((7 * i : Nat) : Int) := by
    simp [IntKind.wrap, IntKind.bits, IntKind.signed]; omega
  have hsh0 : (0 : Int) ≤ ((7 * i : Nat) : Int) := by omega
  have hshl : IntKind.u64.wrap (((l[i].toNat % 128 : Nat) : Int) * 2 ^ min ((7 * i : Nat) : Int).toNat IntKind.u64.bits) = (((l[i].toNat % 128) * 2 ^ (7 * i) : Nat) : Int) := by
    rw [Int.toNat_natCast, show min (7 * i) IntKind.u64.bits = 7 * i by simp only [IntKind.bits]; omega]
    have : ((l[i].toNat % 128 : Nat) : Int) * 2 ^ (7 * i) = (((l[i].toNat % 128) * 2 ^ (7 * i) : Nat) : Int) := by simp
    rw [this]
    exact wrap_u rfl a1
  have hadd : IntKind.u64.wrap ((n : Int) + (((l[i].toNat % 128) * 2 ^ (7 * i) : Nat) : Int)) = ((n + (l[i].toNat % 128) * 2 ^ (7 * i) : Nat) : Int) := by
    rw [← Int.natCast_add]
    exact wrap_u rfl a2
  have hi1 : IntKind.i64.wrap ((i : Int) + 1) = ((i + 1 : Nat) : Int) := by
    simp [IntKind.wrap, IntKind.bits, IntKind.signed]; omega
  have hB3 : (i = 0 ∧ decide (((i : Nat) : Int) > 0) = false ∧ (((i : Nat) : Int) == 9) = false) ∨ (decide (((i : Nat) : Int) > 0) = true ∧ (((l[i].toNat : Nat) : Int) == 0) = false ∧ (((i : Nat) : Int) == 9) = false) ∨
      (decide (((i : Nat) : Int) > 0) = true ∧ (((l[i].toNat : Nat) : Int) == 0) = false ∧ (((i : Nat) : Int) == 9) = true ∧ decide (((l[i].toNat : Nat) : Int) > 1) = false ∧ i = 9) := by
    by_cases e0 : i = 0
    · exact .inl ⟨e0, by rw [decide_eq_false_iff_not]; omega, by rw [beq_eq_false_iff_ne]; omega⟩
    · have c0 : l[i].toNat ≠ 0 := fun e => hb (.inr ⟨by omega, e⟩)
      by_cases e9 : i = 9
      · have c1 : ¬ 1 < l[i].toNat := fun e => hb (.inl ⟨by omega, e⟩)
        exact .inr (.inr ⟨by rw [decide_eq_true_eq]; omega, by rw [beq_eq_false_iff_ne]; omega, by rw [e9]; rfl, by rw [decide_eq_false_iff_not]; omega, e9⟩)
      · exact .inr (.inl ⟨by rw [decide_eq_true_eq]; omega, by rw [beq_eq_false_iff_ne]; omega, by rw [beq_eq_false_iff_ne]; omega⟩)
  refine ⟨fun hc => ?_, fun hc => ?_⟩
  · have hge : decide (((l[i].toNat : Nat) : Int) < 128) = false := by rw [decide_eq_false_iff_not]; omega
    rcases hB3 with ⟨e0, b3, b1⟩ | ⟨b3, b4, b1⟩ | ⟨b3, b4, b1, b2, e9⟩
    · simp only [AVal.undef, sbn, sbn', nmBody, code, Try.f41, Option.getD_some, Code.fst, Code.snd, Code.inn, aexec, aops, aop, Region.wanted, ayielded, aexecOp, aeval, aput, aseq, ablock, ahint, absOf, flat, nilCheckA, ANext.ofP, evals, evalPs, evalO, aresults, aresults1, aresult, aend, List.getElem?_set, List.length_set, Option.map_some, Option.bind_some, if_true, if_false, ↓reduceIte, Nat.reduceLT, Nat.reduceEqDiff, reduceCtorEq, Bool.false_eq_true, false_and, and_false, and_true, true_and, Nat.reduceAdd, Nat.reduceLeDiff, callA, List.getElem?_toArray, List.getElem?_cons_succ, List.getElem?_cons_zero, sb1, sb2, sb3, sb4, t5, t8, t9, t10, tl, hh, b_lss, hd, i1, i2, b_gtr, b3, b_eql, b1, b_rem _ _ _ _ _ _ _ (show (128 : Int) ≠ 0 by decide), q1, hcv, ANext.ofP, b_mul, q2, b_shl _ _ _ _ _ _ _ _ hsh0, hshl, b_add, hadd, hge, hi1]
      exact ⟨_, rfl, by omega, a4, by simp only [List.getElem?_set, List.length_set, Nat.reduceLT, Nat.reduceEqDiff, ↓reduceIte, reduceCtorEq, *], by simp only [List.getElem?_set, List.length_set, Nat.reduceLT, Nat.reduceEqDiff, ↓reduceIte, reduceCtorEq, *], by simp only [List.getElem?_set, List.length_set, Nat.reduceLT, Nat.reduceEqDiff, ↓reduceIte, reduceCtorEq, *], by simp only [List.getElem?_set, List.length_set, Nat.reduceLT, Nat.reduceEqDiff, ↓reduceIte, reduceCtorEq, *], by simp only [List.getElem?_set, List.length_set, Nat.reduceLT, Nat.reduceEqDiff, ↓reduceIte, reduceCtorEq, *]⟩
    · simp only [AVal.undef, sbn, sbn', nmBody, code, Try.f41, Option.getD_some, Code.fst, Code.snd, Code.inn, aexec, aops, aop, Region.wanted, ayielded, aexecOp, aeval, aput, aseq, ablock, ahint, absOf, flat, nilCheckA, ANext.ofP, evals, evalPs, evalO, aresults, aresults1, aresult, aend, List.getElem?_set, List.length_set, Option.map_some, Option.bind_some, if_true, if_false, ↓reduceIte, Nat.reduceLT, Nat.reduceEqDiff, reduceCtorEq, Bool.false_eq_true, false_and, and_false, and_true, true_and, Nat.reduceAdd, Nat.reduceLeDiff, callA, List.getElem?_toArray, List.getElem?_cons_succ, List.getElem?_cons_zero, sb1, sb2, sb3, sb4, t5, t8, t9, t10, tl, hh, b_lss, hd, i1, i2, b_gtr, b3, b_eql, b4, b1, b_rem _ _ _ _ _ _ _ (show (128 : Int) ≠ 0 by decide), q1, hcv, ANext.ofP, b_mul, q2, b_shl _ _ _ _ _ _ _ _ hsh0, hshl, b_add, hadd, hge, hi1]
      exact ⟨_, rfl, by rw [beq_eq_false_iff_ne] at b1; omega, a4, by simp only [List.getElem?_set, List.length_set, Nat.reduceLT, Nat.reduceEqDiff, ↓reduceIte, reduceCtorEq, *], by simp only [List.getElem?_set, List.length_set, Nat.reduceLT, Nat.reduceEqDiff, ↓reduceIte, reduceCtorEq, *], by simp only [List.getElem?_set, List.length_set, Nat.reduceLT, Nat.reduceEqDiff, ↓reduceIte, reduceCtorEq, *], by simp only [List.getElem?_set, List.length_set, Nat.reduceLT, Nat.reduceEqDiff, ↓reduceIte, reduceCtorEq, *], by simp only [List.getElem?_set, List.length_set, Nat.reduceLT, Nat.reduceEqDiff, ↓reduceIte, reduceCtorEq, *]⟩
    · rw [decide_eq_false_iff_not] at b2; omega
  · have hge : decide (((l[i].toNat : Nat) : Int) < 128) = true := by rw [decide_eq_true_eq]; omega
    rcases hB3 with ⟨e0, b3, b1⟩ | ⟨b3, b4, b1⟩ | ⟨b3, b4, b1, b2, e9⟩
    · simp only [AVal.undef, sbn, sbn', nmBody, code, Try.f41, Option.getD_some, Code.fst, Code.snd, Code.inn, aexec, aops, aop, Region.wanted, ayielded, aexecOp, aeval, aput, aseq, ablock, ahint, absOf, flat, nilCheckA, ANext.ofP, evals, evalPs, evalO, aresults, aresults1, aresult, aend, List.getElem?_set, List.length_set, Option.map_some, Option.bind_some, if_true, if_false, ↓reduceIte, Nat.reduceLT, Nat.reduceEqDiff, reduceCtorEq, Bool.false_eq_true, false_and, and_false, and_true, true_and, Nat.reduceAdd, Nat.reduceLeDiff, callA, List.getElem?_toArray, List.getElem?_cons_succ, List.getElem?_cons_zero, sb1, sb2, sb3, sb4, t5, t8, t9, t10, tl, hh, b_lss, hd, i1, i2, b_gtr, b3, b_eql, b1, b_rem _ _ _ _ _ _ _ (show (128 : Int) ≠ 0 by decide), q1, hcv, ANext.ofP, b_mul, q2, b_shl _ _ _ _ _ _ _ _ hsh0, hshl, b_add, hadd, hge, hi1]
      exact ⟨_, rfl, by simp only [List.getElem?_set, List.length_set, Nat.reduceLT, Nat.reduceEqDiff, ↓reduceIte, reduceCtorEq, *], by simp only [List.getElem?_set, List.length_set, Nat.reduceLT, Nat.reduceEqDiff, ↓reduceIte, reduceCtorEq, *], by simp only [List.getElem?_set, List.length_set, Nat.reduceLT, Nat.reduceEqDiff, ↓reduceIte, reduceCtorEq, *]; rfl⟩
    · simp only [AVal.undef, sbn, sbn', nmBody, code, Try.f41, Option.getD_some, Code.fst, Code.snd, Code.inn, aexec, aops, aop, Region.wanted, ayielded, aexecOp, aeval, aput, aseq, ablock, ahint, absOf, flat, nilCheckA, ANext.ofP, evals, evalPs, evalO, aresults, aresults1, aresult, aend, List.getElem?_set, List.length_set, Option.map_some, Option.bind_some, if_true, if_false, ↓reduceIte, Nat.reduceLT, Nat.reduceEqDiff, reduceCtorEq, Bool.false_eq_true, false_and, and_false, and_true, true_and, Nat.reduceAdd, Nat.reduceLeDiff, callA, List.getElem?_toArray, List.getElem?_cons_succ, List.getElem?_cons_zero, sb1, sb2, sb3, sb4, t5, t8, t9, t10, tl, hh, b_lss, hd, i1, i2, b_gtr, b3, b_eql, b4, b1, b_rem _ _ _ _ _ _ _ (show (128 : Int) ≠ 0 by decide), q1, hcv, ANext.ofP, b_mul, q2, b_shl _ _ _ _ _ _ _ _ hsh0, hshl, b_add, hadd, hge, hi1]
      exact ⟨_, rfl, by simp only [List.getElem?_set, List.length_set, Nat.reduceLT, Nat.reduceEqDiff, ↓reduceIte, reduceCtorEq, *], by simp only [List.getElem?_set, List.length_set, Nat.reduceLT, Nat.reduceEqDiff, ↓reduceIte, reduceCtorEq, *], by simp only [List.getElem?_set, List.length_set, Nat.reduceLT, Nat.reduceEqDiff, ↓reduceIte, reduceCtorEq, *]; rfl⟩
    · simp only [AVal.undef, sbn, sbn', nmBody, code, Try.f41, Option.getD_some, Code.fst, Code.snd, Code.inn, aexec, aops, aop, Region.wanted, ayielded, aexecOp, aeval, aput, aseq, ablock, ahint, absOf, flat, nilCheckA, ANext.ofP, evals, evalPs, evalO, aresults, aresults1, aresult, aend, List.getElem?_set, List.length_set, Option.map_some, Option.bind_some, if_true, if_false, ↓reduceIte, Nat.reduceLT, Nat.reduceEqDiff, reduceCtorEq, Bool.false_eq_true, false_and, and_false, and_true, true_and, Nat.reduceAdd, Nat.reduceLeDiff, callA, List.getElem?_toArray, List.getElem?_cons_succ, List.getElem?_cons_zero, sb1, sb2, sb3, sb4, t5, t8, t9, t10, tl, hh, b_lss, hd, i1, i2, b_gtr, b3, b_eql, b4, b1, b2, b_rem _ _ _ _ _ _ _ (show (128 : Int) ≠ 0 by decide), q1, hcv, ANext.ofP, b_mul, q2, b_shl _ _ _ _ _ _ _ _ hsh0, hshl, b_add, hadd, hge, hi1]
      exact ⟨_, rfl, by simp only [List.getElem?_set, List.length_set, Nat.reduceLT, Nat.reduceEqDiff, ↓reduceIte, reduceCtorEq, *], by simp only [List.getElem?_set, List.length_set, Nat.reduceLT, Nat.reduceEqDiff, ↓reduceIte, reduceCtorEq, *], by simp only [List.getElem?_set, List.length_set, Nat.reduceLT, Nat.reduceEqDiff, ↓reduceIte, reduceCtorEq, *]; rfl⟩

end Go.Proofs.YtjpehemkgikkdaaV
