/- The table's contract. No condition. -/
import Derived.Test.YtnndngoanknemaaVA
namespace Go.Proofs.YtnndngoanknemaaV
open Go Go.RowKit Go.Proofs.YtnndngoanknemaaA
set_option linter.unusedVariables false
set_option linter.unusedSimpArgs false
set_option maxRecDepth 100000

/-! ### bits of numbers -/
theorem wrap_u {k : IntKind} (hk : k.signed = false) {n : Nat} (h : n < 2 ^ k.bits) : k.wrap (n : Int) = (n : Int) := by
  unfold IntKind.wrap
  rw [hk]
  simp only [Bool.false_and, Bool.false_eq_true, if_false]
  exact Int.emod_eq_of_lt (by omega) (by exact_mod_cast h)

theorem and_nat {k : IntKind} (hk : k.signed = false) {a b : Nat} (ha : a < 2 ^ k.bits) (hb : b < 2 ^ k.bits) :
    k.wrap ((BitVec.ofInt k.bits (a : Int) &&& BitVec.ofInt k.bits (b : Int)).toNat : Int) = ((a &&& b : Nat) : Int) := by
  rw [BitVec.ofInt_natCast, BitVec.ofInt_natCast, BitVec.toNat_and, BitVec.toNat_ofNat, BitVec.toNat_ofNat, Nat.mod_eq_of_lt ha, Nat.mod_eq_of_lt hb]
  exact wrap_u hk (Nat.and_lt_two_pow _ hb)

theorem or_nat {k : IntKind} (hk : k.signed = false) {a b : Nat} (ha : a < 2 ^ k.bits) (hb : b < 2 ^ k.bits) :
    k.wrap ((BitVec.ofInt k.bits (a : Int) ||| BitVec.ofInt k.bits (b : Int)).toNat : Int) = ((a ||| b : Nat) : Int) := by
  rw [BitVec.ofInt_natCast, BitVec.ofInt_natCast, BitVec.toNat_or, BitVec.toNat_ofNat, BitVec.toNat_ofNat, Nat.mod_eq_of_lt ha, Nat.mod_eq_of_lt hb]
  exact wrap_u hk (Nat.or_lt_two_pow ha hb)

theorem xor_nat {k : IntKind} (hk : k.signed = false) {a b : Nat} (ha : a < 2 ^ k.bits) (hb : b < 2 ^ k.bits) :
    k.wrap ((BitVec.ofInt k.bits (a : Int) ^^^ BitVec.ofInt k.bits (b : Int)).toNat : Int) = ((a ^^^ b : Nat) : Int) := by
  rw [BitVec.ofInt_natCast, BitVec.ofInt_natCast, BitVec.toNat_xor, BitVec.toNat_ofNat, BitVec.toNat_ofNat, Nat.mod_eq_of_lt ha, Nat.mod_eq_of_lt hb]
  exact wrap_u hk (Nat.xor_lt_two_pow ha hb)

def crcStep (c : Nat) : Nat := if c &&& 1 = 1 then c / 2 ^^^ 3988292384 else c / 2
def crcIt : Nat → Nat → Nat
  | 0, c => c
  | n + 1, c => crcIt n (crcStep c)
def tabN (i : Nat) : Nat := crcIt 8 i

theorem crcStep_lt {c : Nat} (h : c < 2 ^ 32) : crcStep c < 2 ^ 32 := by
  unfold crcStep
  split
  · exact Nat.xor_lt_two_pow (by omega) (by decide)
  · omega
theorem crcIt_lt : ∀ (n c : Nat), c < 2 ^ 32 → crcIt n c < 2 ^ 32
  | 0, c, h => h
  | n + 1, c, h => crcIt_lt n _ (crcStep_lt h)

theorem shr_u32 (x : Nat) : (x : Int).fdiv (2 ^ min (1 : Int).toNat (IntKind.bits .u32)) = ((x / 2 : Nat) : Int) := by
  rw [Int.fdiv_eq_ediv_of_nonneg _ (by decide)]
  rfl

noncomputable def tbOut : Code := (code Try.f39).snd.snd.fst.snd.inn
noncomputable def tbIn : Code := tbOut.snd.snd.fst.inn.snd.snd.fst.snd.inn
noncomputable def tbHead : Code := .seq tbOut.fst tbOut.snd.fst
noncomputable def tbMid : Code := .seq (.seq tbOut.snd.snd.fst.inn.fst tbOut.snd.snd.fst.inn.snd.fst) tbOut.snd.snd.fst.inn.snd.snd.fst.fst
noncomputable def tbPut : Code := tbOut.snd.snd.fst.inn.snd.snd.snd
noncomputable def tbInc : Code := tbOut.snd.snd.snd
noncomputable def tbPre : Code := .seq (.seq (code Try.f39).fst (code Try.f39).snd.fst) (code Try.f39).snd.snd.fst.fst
noncomputable def tbEnd : Code := (code Try.f39).snd.snd.snd

theorem tb_in (call : ACall) (dr : Array Oper → Bool) (n : Nat) {c k : Nat} {st : ASt} {ts : List AVal} (h3 : ts[3]? = some (.lit (.int .u32 c))) (h9 : ts[9]? = some (.lit (.int .i64 k))) (hl : ts.length = 25) (hc : c < 2 ^ 32) :
    (k = 8 → ∃ ts', aexec E 39 call dr n tbIn ts st = some (.exit 2, ts', st) ∧ ts'[3]? = some (.lit (.int .u32 c)) ∧ ts'.length = 25 ∧ ts'[0]? = ts[0]? ∧ ts'[1]? = ts[1]? ∧ ts'[2]? = ts[2]? ∧ ts'[4]? = ts[4]?) ∧
    (k < 8 → ∃ ts', aexec E 39 call dr n tbIn ts st = some (.normal, ts', st) ∧ ts'[3]? = some (.lit (.int .u32 (crcStep c : Nat))) ∧ ts'[9]? = some (.lit (.int .i64 (k + 1 : Nat))) ∧ ts'.length = 25 ∧ ts'[0]? = ts[0]? ∧ ts'[1]? = ts[1]? ∧ ts'[2]? = ts[2]? ∧ ts'[4]? = ts[4]?) := by
  have hh : ∀ t, E.hint 39 t = false := fun _ => rfl
  refine ⟨fun hk => ?_, fun hk => ?_⟩
  · have hd : decide ((k : Int) < 8) = false := by simp; omega
    simp only [tbIn, tbOut, code, Try.f39, Option.getD_some, Code.fst, Code.snd, Code.inn, aexec, aops, aop, Region.wanted, ayielded, aexecOp, aeval, aput, aseq, ablock, ahint, absOf, flat, nilCheckA, ANext.ofP, evals, evalPs, evalO, aresults, aresults1, aresult, aend, List.getElem?_set, List.length_set, Option.map_some, Option.bind_some, if_true, if_false, ↓reduceIte, Nat.reduceLT, Nat.reduceEqDiff, reduceCtorEq, Bool.false_eq_true, false_and, and_false, and_true, true_and, Nat.reduceAdd, Nat.reduceLeDiff, callA, List.getElem?_toArray, List.getElem?_cons_succ, List.getElem?_cons_zero, sb1, sb2, sb3, sb4, sliceU_i, sliceU_s, sliceU_p, sliceU_l, evalV, h3, h9, hl, hh, b_lss, hd]
    exact ⟨_, rfl, by simp [h3], by simp [hl], by simp, by simp, by simp, by simp⟩
  · have hd : decide ((k : Int) < 8) = true := by simp; omega
    have hw : IntKind.i64.wrap ((k : Int) + 1) = ((k + 1 : Nat) : Int) := by
      simp [IntKind.wrap, IntKind.bits, IntKind.signed]; omega
    have ha := and_nat (k := .u32) rfl (a := c) (b := 1) hc (by decide)
    have e1 : ((1 : Nat) : Int) = 1 := rfl
    rw [e1] at ha
    by_cases hb : c &&& 1 = 1
    · have hx := xor_nat (k := .u32) rfl (a := c / 2) (b := 3988292384) (by simp only [IntKind.bits]; omega) (by decide)
      have e2 : ((3988292384 : Nat) : Int) = 3988292384 := rfl
      rw [e2] at hx
      have hq : (((c &&& 1 : Nat) : Int) == 1) = true := by rw [hb]; rfl
      have hs : crcStep c = c / 2 ^^^ 3988292384 := by rw [crcStep, if_pos hb]
      simp only [tbIn, tbOut, code, Try.f39, Option.getD_some, Code.fst, Code.snd, Code.inn, aexec, aops, aop, Region.wanted, ayielded, aexecOp, aeval, aput, aseq, ablock, ahint, absOf, flat, nilCheckA, ANext.ofP, evals, evalPs, evalO, aresults, aresults1, aresult, aend, List.getElem?_set, List.length_set, Option.map_some, Option.bind_some, if_true, if_false, ↓reduceIte, Nat.reduceLT, Nat.reduceEqDiff, reduceCtorEq, Bool.false_eq_true, false_and, and_false, and_true, true_and, Nat.reduceAdd, Nat.reduceLeDiff, callA, List.getElem?_toArray, List.getElem?_cons_succ, List.getElem?_cons_zero, sb1, sb2, sb3, sb4, sliceU_i, sliceU_s, sliceU_p, sliceU_l, evalV, h3, h9, hl, hh, b_lss, hd, b_and, ha, b_eql, hq, b_shr _ _ _ _ _ _ _ _ (show (0 : Int) ≤ 1 by decide), shr_u32, b_xor, hx, b_add, hw]
      exact ⟨_, rfl, by simp [hl, hs], by simp [hl], by simp [hl], by simp, by simp, by simp, by simp⟩
    · have hq : (((c &&& 1 : Nat) : Int) == 1) = false := by
        rw [beq_eq_false_iff_ne]; intro e; exact hb (by exact_mod_cast e)
      have hs : crcStep c = c / 2 := by rw [crcStep, if_neg hb]
      simp only [tbIn, tbOut, code, Try.f39, Option.getD_some, Code.fst, Code.snd, Code.inn, aexec, aops, aop, Region.wanted, ayielded, aexecOp, aeval, aput, aseq, ablock, ahint, absOf, flat, nilCheckA, ANext.ofP, evals, evalPs, evalO, aresults, aresults1, aresult, aend, List.getElem?_set, List.length_set, Option.map_some, Option.bind_some, if_true, if_false, ↓reduceIte, Nat.reduceLT, Nat.reduceEqDiff, reduceCtorEq, Bool.false_eq_true, false_and, and_false, and_true, true_and, Nat.reduceAdd, Nat.reduceLeDiff, callA, List.getElem?_toArray, List.getElem?_cons_succ, List.getElem?_cons_zero, sb1, sb2, sb3, sb4, sliceU_i, sliceU_s, sliceU_p, sliceU_l, evalV, h3, h9, hl, hh, b_lss, hd, b_and, ha, b_eql, hq, b_shr _ _ _ _ _ _ _ _ (show (0 : Int) ≤ 1 by decide), shr_u32, b_add, hw]
      exact ⟨_, rfl, by simp [hl, hs], by simp [hl], by simp [hl], by simp, by simp, by simp, by simp⟩

theorem tb_loop (call : ACall) (dr : Array Oper → Bool) (n : Nat) {c : Nat} {st : ASt} {ts : List AVal} (h3 : ts[3]? = some (.lit (.int .u32 c))) (h9 : ts[9]? = some (.lit (.int .i64 (0 : Nat)))) (hl : ts.length = 25) (hc : c < 2 ^ 32) (hn : 8 < n) :
    ∃ ts', aloop (aexec E 39 call dr n tbIn) n ts st = some (.exit 2, ts', st) ∧ ts'[3]? = some (.lit (.int .u32 (crcIt 8 c : Nat))) ∧ ts'.length = 25 ∧ ts'[0]? = ts[0]? ∧ ts'[1]? = ts[1]? ∧ ts'[2]? = ts[2]? ∧ ts'[4]? = ts[4]? := by
  obtain ⟨e, ts', st', h, rfl, rfl, hq⟩ := aloop_rule (b := aexec E 39 call dr n tbIn)
    (I := fun k ts1 s => s = st ∧ k ≤ 8 ∧ ∃ x, x < 2 ^ 32 ∧ crcIt k x = crcIt 8 c ∧ ts1[3]? = some (.lit (.int .u32 (x : Nat))) ∧ ts1[9]? = some (.lit (.int .i64 (8 - k : Nat))) ∧ ts1.length = 25 ∧ ts1[0]? = ts[0]? ∧ ts1[1]? = ts[1]? ∧ ts1[2]? = ts[2]? ∧ ts1[4]? = ts[4]?)
    (Q := fun e ts' s => s = st ∧ e = .exit 2 ∧ ts'[3]? = some (.lit (.int .u32 (crcIt 8 c : Nat))) ∧ ts'.length = 25 ∧ ts'[0]? = ts[0]? ∧ ts'[1]? = ts[1]? ∧ ts'[2]? = ts[2]? ∧ ts'[4]? = ts[4]?)
    (step := by
      rintro k ts1 s ⟨hs, hk, x, hx, hit, a3, a9, al, a0, a1, a2, a4⟩
      rw [hs]
      cases k with
      | zero =>
        obtain ⟨ts', e, b3, bl, b0, b1, b2, b4⟩ := (tb_in call dr n (st := st) a3 a9 al hx).1 rfl
        exact .inr ⟨_, ts', _, e, by simp, rfl, rfl, by rw [b3, ← hit]; rfl, bl, by rw [b0, a0], by rw [b1, a1], by rw [b2, a2], by rw [b4, a4]⟩
      | succ k =>
        obtain ⟨ts', e, b3, b9, bl, b0, b1, b2, b4⟩ := (tb_in call dr n (st := st) a3 a9 al hx).2 (by omega)
        exact .inl ⟨ts', _, e, k, by omega, rfl, by omega, crcStep x, crcStep_lt hx, hit, b3, by rw [b9]; congr 5; omega, bl, by rw [b0, a0], by rw [b1, a1], by rw [b2, a2], by rw [b4, a4]⟩)
    n 8 ts st ⟨rfl, Nat.le_refl _, c, hc, rfl, h3, h9, hl, rfl, rfl, rfl, rfl⟩ hn
  exact ⟨ts', h, hq⟩

end Go.Proofs.YtnndngoanknemaaV

/- The table's contract, its end. No condition. -/
namespace Go.Proofs.YtnndngoanknemaaV
open Go Go.RowKit Go.Proofs.YtnndngoanknemaaA
set_option linter.unusedVariables false
set_option linter.unusedSimpArgs false
set_option maxRecDepth 100000


/-- the table, as far as it is made -/
def tabC (i : Nat) : List AVal := (List.range 256).map fun j => .lit (.int .u32 (if j < i then (tabN j : Int) else 0))

theorem tabC_len (i : Nat) : (tabC i).length = 256 := by simp [tabC]
theorem tabC_set {i : Nat} (h : i < 256) : (tabC i).set i (.lit (.int .u32 (tabN i : Nat))) = tabC (i + 1) := by
  apply List.ext_getElem
  · simp [tabC]
  · intro j h1 h2
    rw [List.getElem_set]
    simp only [tabC, List.getElem_map, List.getElem_range]
    by_cases e : i = j
    · subst e; simp
    · rw [if_neg e]
      by_cases hj : j < i
      · rw [if_pos hj, if_pos (by omega)]
      · rw [if_neg hj, if_neg (by omega)]

theorem tabC_all : tabC 256 = (List.range 256).map fun j => AVal.lit (.int .u32 (tabN j)) := by
  unfold tabC
  apply List.map_congr_left
  intro j hj
  rw [if_pos (List.mem_range.1 hj)]

theorem idx_arr {s : Nat} {i : Nat} (h : i < 256) (k : IntKind) : indexA E.P 76 (.ptr s 0) (.lit (.int k i)) = some (.ptr s i) := by
  have : indexA E.P 76 (.ptr s 0) (.lit (.int k i)) = if 0 ≤ (i : Int) ∧ (i : Int) < (256 : Nat) then some (.ptr s (0 + (i : Int).toNat * 1)) else none := rfl
  rw [this, if_pos ⟨by omega, by omega⟩]
  simp

theorem store_cell {st : ASt} {s i : Nat} {cs : List AVal} (hs : st.heap s = some (.cells cs)) (hi : i < cs.length) (n : Int) :
    storeA E.P 22 st (.ptr s i) (.lit (.int .u32 n)) = some (st.set s (some (.cells (cs.set i (.lit (.int .u32 n)))))) := by
  have : storeA E.P 22 st (.ptr s i) (.lit (.int .u32 n)) = (match st.heap s with
    | some (.cells cs) => if some 1 = some 1 ∧ i + 1 ≤ cs.length ∧ true = true then some (st.set s (some (.cells (cs.set i (.lit (.int .u32 n)))))) else none
    | _ => none) := rfl
  rw [this, hs]
  simp only
  rw [if_pos ⟨trivial, by omega, trivial⟩]

theorem tb_alloc (st : ASt) : allocA E.P 76 st = some (.ptr st.ctr 0, st.new (.cells (tabC 0))) := by
  have : allocA E.P 76 st = some (.ptr st.ctr 0, st.new (.cells (List.replicate 256 (.lit (.int .u32 0))))) := rfl
  rw [this]
  have e : tabC 0 = List.replicate 256 (.lit (.int .u32 0)) := by
    rw [List.eq_replicate_iff]
    refine ⟨tabC_len 0, fun b hb => ?_⟩
    obtain ⟨j, _, rfl⟩ := List.mem_map.1 hb
    simp
  rw [e]

theorem tb_head (call : ACall) (dr : Array Oper → Bool) (n : Nat) {i s0 s1 : Nat} {st : ASt} {ts : List AVal} (h0 : ts[0]? = some (.ptr s0 0)) (h1 : ts[1]? = some (.ptr s1 0)) (h4 : ts[4]? = some (.lit (.int .i64 i))) (hl : ts.length = 25) :
    (i = 256 → ∃ ts', aexec E 39 call dr n tbHead ts st = some (.exit 0, ts', st) ∧ ts'[0]? = ts[0]? ∧ ts'[1]? = ts[1]? ∧ ts'.length = 25) ∧
    (i < 256 → ∃ ts', aexec E 39 call dr n tbHead ts st = some (.normal, ts', st) ∧ ts'[0]? = ts[0]? ∧ ts'[1]? = ts[1]? ∧ ts'[4]? = ts[4]? ∧ ts'.length = 25) := by
  have hh : ∀ t, E.hint 39 t = false := fun _ => rfl
  refine ⟨fun hk => ?_, fun hk => ?_⟩
  · have hd : decide ((i : Int) < 256) = false := by simp; omega
    simp only [tbHead, tbOut, code, Try.f39, Option.getD_some, Code.fst, Code.snd, Code.inn, aexec, aops, aop, Region.wanted, ayielded, aexecOp, aeval, aput, aseq, ablock, ahint, absOf, flat, nilCheckA, ANext.ofP, evals, evalPs, evalO, aresults, aresults1, aresult, aend, List.getElem?_set, List.length_set, Option.map_some, Option.bind_some, if_true, if_false, ↓reduceIte, Nat.reduceLT, Nat.reduceEqDiff, reduceCtorEq, Bool.false_eq_true, false_and, and_false, and_true, true_and, Nat.reduceAdd, Nat.reduceLeDiff, callA, List.getElem?_toArray, List.getElem?_cons_succ, List.getElem?_cons_zero, sb1, sb2, sb3, sb4, sliceU_i, sliceU_s, sliceU_p, sliceU_l, evalV, h0, h1, h4, hl, hh, b_lss, hd]
    exact ⟨_, rfl, by simp only [List.getElem?_set, List.length_set, Nat.reduceLT, Nat.reduceEqDiff, ↓reduceIte, reduceCtorEq, *], by simp only [List.getElem?_set, List.length_set, Nat.reduceLT, Nat.reduceEqDiff, ↓reduceIte, reduceCtorEq, *], by simp only [List.getElem?_set, List.length_set, Nat.reduceLT, Nat.reduceEqDiff, ↓reduceIte, reduceCtorEq, *]⟩
  · have hd : decide ((i : Int) < 256) = true := by simp; omega
    simp only [tbHead, tbOut, code, Try.f39, Option.getD_some, Code.fst, Code.snd, Code.inn, aexec, aops, aop, Region.wanted, ayielded, aexecOp, aeval, aput, aseq, ablock, ahint, absOf, flat, nilCheckA, ANext.ofP, evals, evalPs, evalO, aresults, aresults1, aresult, aend, List.getElem?_set, List.length_set, Option.map_some, Option.bind_some, if_true, if_false, ↓reduceIte, Nat.reduceLT, Nat.reduceEqDiff, reduceCtorEq, Bool.false_eq_true, false_and, and_false, and_true, true_and, Nat.reduceAdd, Nat.reduceLeDiff, callA, List.getElem?_toArray, List.getElem?_cons_succ, List.getElem?_cons_zero, sb1, sb2, sb3, sb4, sliceU_i, sliceU_s, sliceU_p, sliceU_l, evalV, h0, h1, h4, hl, hh, b_lss, hd]
    exact ⟨_, rfl, by simp only [List.getElem?_set, List.length_set, Nat.reduceLT, Nat.reduceEqDiff, ↓reduceIte, reduceCtorEq, *], by simp only [List.getElem?_set, List.length_set, Nat.reduceLT, Nat.reduceEqDiff, ↓reduceIte, reduceCtorEq, *], by simp only [List.getElem?_set, List.length_set, Nat.reduceLT, Nat.reduceEqDiff, ↓reduceIte, reduceCtorEq, *], by simp only [List.getElem?_set, List.length_set, Nat.reduceLT, Nat.reduceEqDiff, ↓reduceIte, reduceCtorEq, *]⟩

theorem u3 : E.P.underlying 3 = some (.int .i64) := rfl
theorem u38 : E.P.underlying 22 = some (.int .u32) := rfl

theorem tb_mid (call : ACall) (dr : Array Oper → Bool) (n : Nat) {i s0 s1 : Nat} {st : ASt} {ts : List AVal} (h0 : ts[0]? = some (.ptr s0 0)) (h1 : ts[1]? = some (.ptr s1 0)) (h4 : ts[4]? = some (.lit (.int .i64 i))) (hl : ts.length = 25) (hi : i < 256) :
    ∃ ts', aexec E 39 call dr n tbMid ts st = some (.normal, ts', st) ∧ ts'[0]? = ts[0]? ∧ ts'[1]? = ts[1]? ∧ ts'[2]? = some (.lit (.int .i64 i)) ∧ ts'[3]? = some (.lit (.int .u32 i)) ∧ ts'[4]? = ts[4]? ∧ ts'[9]? = some (.lit (.int .i64 (0 : Nat))) ∧ ts'.length = 25 := by
  have hh : ∀ t, E.hint 39 t = false := fun _ => rfl
  have hc := c_int (mt := false) (st := st) (k := .i64) (n := (i : Int)) u3 u38
  rw [wrap_u rfl (by simp only [IntKind.bits]; omega)] at hc
  simp only [tbMid, tbOut, code, Try.f39, Option.getD_some, Code.fst, Code.snd, Code.inn, aexec, aops, aop, Region.wanted, ayielded, aexecOp, aeval, aput, aseq, ablock, ahint, absOf, flat, nilCheckA, ANext.ofP, evals, evalPs, evalO, aresults, aresults1, aresult, aend, List.getElem?_set, List.length_set, Option.map_some, Option.bind_some, if_true, if_false, ↓reduceIte, Nat.reduceLT, Nat.reduceEqDiff, reduceCtorEq, Bool.false_eq_true, false_and, and_false, and_true, true_and, Nat.reduceAdd, Nat.reduceLeDiff, callA, List.getElem?_toArray, List.getElem?_cons_succ, List.getElem?_cons_zero, sb1, sb2, sb3, sb4, sliceU_i, sliceU_s, sliceU_p, sliceU_l, evalV, h0, h1, h4, hl, hh, hc]
  exact ⟨_, rfl, by simp only [List.getElem?_set, List.length_set, Nat.reduceLT, Nat.reduceEqDiff, ↓reduceIte, reduceCtorEq, *], by simp only [List.getElem?_set, List.length_set, Nat.reduceLT, Nat.reduceEqDiff, ↓reduceIte, reduceCtorEq, *], by simp only [List.getElem?_set, List.length_set, Nat.reduceLT, Nat.reduceEqDiff, ↓reduceIte, reduceCtorEq, *], by simp only [List.getElem?_set, List.length_set, Nat.reduceLT, Nat.reduceEqDiff, ↓reduceIte, reduceCtorEq, *], by simp only [List.getElem?_set, List.length_set, Nat.reduceLT, Nat.reduceEqDiff, ↓reduceIte, reduceCtorEq, *], by simp only [List.getElem?_set, List.length_set, Nat.reduceLT, Nat.reduceEqDiff, ↓reduceIte, reduceCtorEq, *]; rfl, by simp only [List.getElem?_set, List.length_set, Nat.reduceLT, Nat.reduceEqDiff, ↓reduceIte, reduceCtorEq, *]⟩

theorem tb_put (call : ACall) (dr : Array Oper → Bool) (n : Nat) {i s0 s1 : Nat} {st : ASt} {ts : List AVal} (h0 : ts[0]? = some (.ptr s0 0)) (h1 : ts[1]? = some (.ptr s1 0)) (h2 : ts[2]? = some (.lit (.int .i64 i))) (h3 : ts[3]? = some (.lit (.int .u32 (tabN i : Nat)))) (hl : ts.length = 25) (hi : i < 256)
    (hs : st.heap s1 = some (.cells (tabC i))) :
    ∃ ts', aexec E 39 call dr n tbPut ts st = some (.normal, ts', st.set s1 (some (.cells (tabC (i + 1))))) ∧ ts'[0]? = ts[0]? ∧ ts'[1]? = ts[1]? ∧ ts'[4]? = ts[4]? ∧ ts'.length = 25 := by
  have hh : ∀ t, E.hint 39 t = false := fun _ => rfl
  have hx := store_cell hs (by rw [tabC_len]; exact hi) (tabN i : Nat)
  rw [tabC_set hi] at hx
  simp only [tbPut, tbOut, code, Try.f39, Option.getD_some, Code.fst, Code.snd, Code.inn, aexec, aops, aop, Region.wanted, ayielded, aexecOp, aeval, aput, aseq, ablock, ahint, absOf, flat, nilCheckA, ANext.ofP, evals, evalPs, evalO, aresults, aresults1, aresult, aend, List.getElem?_set, List.length_set, Option.map_some, Option.bind_some, if_true, if_false, ↓reduceIte, Nat.reduceLT, Nat.reduceEqDiff, reduceCtorEq, Bool.false_eq_true, false_and, and_false, and_true, true_and, Nat.reduceAdd, Nat.reduceLeDiff, callA, List.getElem?_toArray, List.getElem?_cons_succ, List.getElem?_cons_zero, sb1, sb2, sb3, sb4, sliceU_i, sliceU_s, sliceU_p, sliceU_l, evalV, h0, h1, h2, h3, hl, hh, idx_arr hi, hx]
  exact ⟨_, rfl, by simp only [List.getElem?_set, List.length_set, Nat.reduceLT, Nat.reduceEqDiff, ↓reduceIte, reduceCtorEq, *], by simp only [List.getElem?_set, List.length_set, Nat.reduceLT, Nat.reduceEqDiff, ↓reduceIte, reduceCtorEq, *], by simp only [List.getElem?_set, List.length_set, Nat.reduceLT, Nat.reduceEqDiff, ↓reduceIte, reduceCtorEq, *], by simp only [List.getElem?_set, List.length_set, Nat.reduceLT, Nat.reduceEqDiff, ↓reduceIte, reduceCtorEq, *]⟩

theorem tb_inc (call : ACall) (dr : Array Oper → Bool) (n : Nat) {i s0 s1 : Nat} {st : ASt} {ts : List AVal} (h4 : ts[4]? = some (.lit (.int .i64 i))) (hl : ts.length = 25) (hi : i < 256) :
    ∃ ts', aexec E 39 call dr n tbInc ts st = some (.normal, ts', st) ∧ ts'[0]? = ts[0]? ∧ ts'[1]? = ts[1]? ∧ ts'[4]? = some (.lit (.int .i64 (i + 1 : Nat))) ∧ ts'.length = 25 := by
  have hh : ∀ t, E.hint 39 t = false := fun _ => rfl
  have hw : IntKind.i64.wrap ((i : Int) + 1) = ((i + 1 : Nat) : Int) := by
    simp [IntKind.wrap, IntKind.bits, IntKind.signed]; omega
  simp only [tbInc, tbOut, code, Try.f39, Option.getD_some, Code.fst, Code.snd, Code.inn, aexec, aops, aop, Region.wanted, ayielded, aexecOp, aeval, aput, aseq, ablock, ahint, absOf, flat, nilCheckA, ANext.ofP, evals, evalPs, evalO, aresults, aresults1, aresult, aend, List.getElem?_set, List.length_set, Option.map_some, Option.bind_some, if_true, if_false, ↓reduceIte, Nat.reduceLT, Nat.reduceEqDiff, reduceCtorEq, Bool.false_eq_true, false_and, and_false, and_true, true_and, Nat.reduceAdd, Nat.reduceLeDiff, callA, List.getElem?_toArray, List.getElem?_cons_succ, List.getElem?_cons_zero, sb1, sb2, sb3, sb4, sliceU_i, sliceU_s, sliceU_p, sliceU_l, evalV, h4, hl, hh, b_add, hw]
  exact ⟨_, rfl, by simp only [List.getElem?_set, List.length_set, Nat.reduceLT, Nat.reduceEqDiff, ↓reduceIte, reduceCtorEq, *], by simp only [List.getElem?_set, List.length_set, Nat.reduceLT, Nat.reduceEqDiff, ↓reduceIte, reduceCtorEq, *], by simp only [List.getElem?_set, List.length_set, Nat.reduceLT, Nat.reduceEqDiff, ↓reduceIte, reduceCtorEq, *], by simp only [List.getElem?_set, List.length_set, Nat.reduceLT, Nat.reduceEqDiff, ↓reduceIte, reduceCtorEq, *]⟩

theorem tb_out_eq : tbOut = .seq tbOut.fst (.seq tbOut.snd.fst (.seq (.block 1 (.seq tbOut.snd.snd.fst.inn.fst (.seq tbOut.snd.snd.fst.inn.snd.fst (.seq (.seq tbOut.snd.snd.fst.inn.snd.snd.fst.fst (.block 2 (.loop tbIn))) tbPut)))) tbInc)) := rfl

theorem tb_out_parts (call : ACall) (dr : Array Oper → Bool) (n : Nat) (ts : List AVal) (st : ASt) : aexec E 39 call dr n tbOut ts st =
    aseq (aexec E 39 call dr n tbHead ts st) fun ts st => aseq (ablock 1 (aseq (aexec E 39 call dr n tbMid ts st) fun ts st => aseq (ablock 2 (aloop (aexec E 39 call dr n tbIn) n ts st)) (aexec E 39 call dr n tbPut))) (aexec E 39 call dr n tbInc) := by
  rw [tb_out_eq, tbHead, tbMid]
  simp only [aexec_seq, aexec_block, aexec_loop, aseq_assoc]

theorem tb_out (call : ACall) (dr : Array Oper → Bool) (n : Nat) (hn : 8 < n) {i s0 s1 : Nat} {st : ASt} {ts : List AVal} (h0 : ts[0]? = some (.ptr s0 0)) (h1 : ts[1]? = some (.ptr s1 0)) (h4 : ts[4]? = some (.lit (.int .i64 i))) (hl : ts.length = 25)
    (hs : st.heap s1 = some (.cells (tabC i))) :
    (i = 256 → ∃ ts', aexec E 39 call dr n tbOut ts st = some (.exit 0, ts', st) ∧ ts'[0]? = ts[0]? ∧ ts'[1]? = ts[1]? ∧ ts'.length = 25) ∧
    (i < 256 → ∃ ts', aexec E 39 call dr n tbOut ts st = some (.normal, ts', st.set s1 (some (.cells (tabC (i + 1))))) ∧ ts'[0]? = ts[0]? ∧ ts'[1]? = ts[1]? ∧ ts'[4]? = some (.lit (.int .i64 (i + 1 : Nat))) ∧ ts'.length = 25) := by
  rw [tb_out_parts]
  refine ⟨fun hi => ?_, fun hi => ?_⟩
  · obtain ⟨ts1, e1, a0, a1, al⟩ := (tb_head call dr n (st := st) h0 h1 h4 hl).1 hi
    exact ⟨ts1, by rw [e1]; rfl, a0, a1, al⟩
  · obtain ⟨ts1, e1, a0, a1, a4, al⟩ := (tb_head call dr n (st := st) h0 h1 h4 hl).2 hi
    obtain ⟨ts2, e2, b0, b1, b2, b3, b4, b9, bl⟩ := tb_mid call dr n (st := st) (by rw [a0, h0]) (by rw [a1, h1]) (by rw [a4, h4]) al hi
    obtain ⟨ts3, e3, c3, cl, c0, c1, c2, c4⟩ := tb_loop call dr n (st := st) b3 b9 bl (by omega) hn
    obtain ⟨ts4, e4, d0, d1, d4, dl⟩ := tb_put call dr n (st := st) (by rw [c0, b0, a0, h0]) (by rw [c1, b1, a1, h1]) (by rw [c2, b2]) c3 cl hi hs
    obtain ⟨ts5, e5, f0, f1, f4, fl⟩ := tb_inc call dr n (s0 := s0) (s1 := s1) (st := st.set s1 (some (.cells (tabC (i + 1))))) (by rw [d4, c4, b4, a4, h4]) dl hi
    refine ⟨ts5, ?_, by rw [f0, d0, c0, b0, a0], by rw [f1, d1, c1, b1, a1], f4, fl⟩
    simp only [e1, aseq, e2, e3, ablock, if_true, e4, e5]

end Go.Proofs.YtnndngoanknemaaV

/- The table's contract, and Sum's. No condition. -/
namespace Go.Proofs.YtnndngoanknemaaV
open Go Go.RowKit Go.Proofs.YtnndngoanknemaaA
set_option linter.unusedVariables false
set_option linter.unusedSimpArgs false
set_option maxRecDepth 100000

theorem tb_outer (call : ACall) (dr : Array Oper → Bool) (n : Nat) (hn : 256 < n) {s0 s1 : Nat} {st : ASt} {ts : List AVal} (h0 : ts[0]? = some (.ptr s0 0)) (h1 : ts[1]? = some (.ptr s1 0)) (h4 : ts[4]? = some (.lit (.int .i64 (0 : Nat)))) (hl : ts.length = 25)
    (hs : st.heap s1 = some (.cells (tabC 0))) :
    ∃ ts' st', aloop (aexec E 39 call dr n tbOut) n ts st = some (.exit 0, ts', st') ∧ ts'[0]? = ts[0]? ∧ ts'[1]? = ts[1]? ∧ ts'.length = 25 ∧ st'.ctr = st.ctr ∧ st'.heap s1 = some (.cells (tabC 256)) ∧ ∀ j, j ≠ s1 → st'.heap j = st.heap j := by
  obtain ⟨e, ts', st', h, rfl, hq⟩ := aloop_rule (b := aexec E 39 call dr n tbOut)
    (I := fun k ts1 s => k ≤ 256 ∧ ts1[0]? = ts[0]? ∧ ts1[1]? = ts[1]? ∧ ts1[4]? = some (.lit (.int .i64 (256 - k : Nat))) ∧ ts1.length = 25 ∧ s.ctr = st.ctr ∧ s.heap s1 = some (.cells (tabC (256 - k))) ∧ ∀ j, j ≠ s1 → s.heap j = st.heap j)
    (Q := fun e ts' s => e = .exit 0 ∧ ts'[0]? = ts[0]? ∧ ts'[1]? = ts[1]? ∧ ts'.length = 25 ∧ s.ctr = st.ctr ∧ s.heap s1 = some (.cells (tabC 256)) ∧ ∀ j, j ≠ s1 → s.heap j = st.heap j)
    (step := by
      rintro k ts1 s ⟨hk, a0, a1, a4, al, hc, hh, hf⟩
      have hb := tb_out call dr n (by omega) (s0 := s0) (s1 := s1) (st := s) (by rw [a0, h0]) (by rw [a1, h1]) a4 al hh
      cases k with
      | zero =>
        obtain ⟨ts', e, b0, b1, bl⟩ := hb.1 rfl
        exact .inr ⟨_, ts', _, e, by simp, rfl, by rw [b0, a0], by rw [b1, a1], bl, hc, hh, hf⟩
      | succ k =>
        obtain ⟨ts', e, b0, b1, b4, bl⟩ := hb.2 (by omega)
        have e1 : 256 - (k + 1) + 1 = 256 - k := by omega
        rw [e1] at e b4
        exact .inl ⟨ts', _, e, k, by omega, by omega, by rw [b0, a0], by rw [b1, a1], b4, bl, hc, by simp [ASt.set], fun j hj => by rw [ASt.set_ne _ _ _ _ hj]; exact hf j hj⟩)
    n 256 ts st ⟨Nat.le_refl _, rfl, rfl, h4, hl, rfl, hs, fun _ _ => rfl⟩ hn
  exact ⟨ts', st', h, hq⟩

theorem tb_pre (call : ACall) (dr : Array Oper → Bool) (n : Nat) {st : ASt} {ts : List AVal} (hl : ts.length = 25) :
    ∃ ts', aexec E 39 call dr n tbPre ts st = some (.normal, ts', (st.new (.cells (tabC 0))).new (.cells (tabC 0))) ∧ ts'[0]? = some (.ptr st.ctr 0) ∧ ts'[1]? = some (.ptr (st.ctr + 1) 0) ∧ ts'[4]? = some (.lit (.int .i64 (0 : Nat))) ∧ ts'.length = 25 := by
  have hh : ∀ t, E.hint 39 t = false := fun _ => rfl
  simp only [tbPre, code, Try.f39, Option.getD_some, Code.fst, Code.snd, Code.inn, aexec, aops, aop, Region.wanted, ayielded, aexecOp, aeval, aput, aseq, ablock, ahint, absOf, flat, nilCheckA, ANext.ofP, evals, evalPs, evalO, aresults, aresults1, aresult, aend, List.getElem?_set, List.length_set, Option.map_some, Option.bind_some, if_true, if_false, ↓reduceIte, Nat.reduceLT, Nat.reduceEqDiff, reduceCtorEq, Bool.false_eq_true, false_and, and_false, and_true, true_and, Nat.reduceAdd, Nat.reduceLeDiff, callA, List.getElem?_toArray, List.getElem?_cons_succ, List.getElem?_cons_zero, sb1, sb2, sb3, sb4, sliceU_i, sliceU_s, sliceU_p, sliceU_l, evalV, hl, hh, tb_alloc]
  exact ⟨_, rfl, by simp only [List.getElem?_set, List.length_set, Nat.reduceLT, Nat.reduceEqDiff, ↓reduceIte, reduceCtorEq, *], by simp only [List.getElem?_set, List.length_set, Nat.reduceLT, Nat.reduceEqDiff, ↓reduceIte, reduceCtorEq, *]; rfl, by simp only [List.getElem?_set, List.length_set, Nat.reduceLT, Nat.reduceEqDiff, ↓reduceIte, reduceCtorEq, *]; rfl, by simp only [List.getElem?_set, List.length_set, Nat.reduceLT, Nat.reduceEqDiff, ↓reduceIte, reduceCtorEq, *]⟩

theorem load_tab {st : ASt} {s i : Nat} (hs : st.heap s = some (.cells (tabC i))) : loadA E.P 76 st (.ptr s 0) = some (.agg (tabC i)) := by
  have : loadA E.P 76 st (.ptr s 0) = (match st.heap s with
    | some (.cells cs) => if 0 + 256 ≤ cs.length then some (.agg ((cs.drop 0).take 256)) else none
    | _ => none) := rfl
  rw [this, hs]
  simp only
  rw [if_pos (by rw [tabC_len]; decide)]
  rw [List.drop_zero, List.take_of_length_le (by rw [tabC_len]; decide)]

theorem putL_all (l cs : List AVal) : ∀ off, off + l.length = cs.length → putL cs off l = cs.take off ++ l := by
  induction l generalizing cs with
  | nil => intro off h; simp at h; subst h; simp [putL]
  | cons v l ih =>
    intro off h
    simp only [List.length_cons] at h
    rw [putL, ih _ (off + 1) (by simp; omega)]
    rw [List.take_succ_eq_append_getElem (by simp; omega), List.take_set, List.set_eq_of_length_le (by simp; omega)]
    simp

theorem store_tab {st : ASt} {s i j : Nat} (hs : st.heap s = some (.cells (tabC i))) : storeA E.P 76 st (.ptr s 0) (.agg (tabC j)) = some (st.set s (some (.cells (tabC j)))) := by
  have : storeA E.P 76 st (.ptr s 0) (.agg (tabC j)) = (match st.heap s with
    | some (.cells cs) => if some 256 = some (tabC j).length ∧ 0 + (tabC j).length ≤ cs.length ∧ (tabC j).all AVal.isCell = true then some (st.set s (some (.cells (putL cs 0 (tabC j))))) else none
    | _ => none) := rfl
  rw [this, hs]
  simp only
  rw [if_pos ⟨by rw [tabC_len], by rw [tabC_len, tabC_len]; decide, by
    rw [List.all_eq_true]
    intro x hx
    obtain ⟨q, _, rfl⟩ := List.mem_map.1 hx
    rfl⟩]
  rw [putL_all _ _ 0 (by rw [tabC_len, tabC_len])]
  simp

theorem tb_end (call : ACall) (dr : Array Oper → Bool) (n : Nat) {s0 s1 : Nat} {st : ASt} {ts : List AVal} (h0 : ts[0]? = some (.ptr s0 0)) (h1 : ts[1]? = some (.ptr s1 0)) (hl : ts.length = 25) (hs : st.heap s1 = some (.cells (tabC 256))) (hs0 : st.heap s0 = some (.cells (tabC 0))) :
    ∃ ts', aexec E 39 call dr n tbEnd ts st = some (.ret, ts', st.set s0 (some (.cells (tabC 256)))) ∧ ts'[0]? = some (.ptr s0 0) := by
  have hh : ∀ t, E.hint 39 t = false := fun _ => rfl
  simp only [tbEnd, code, Try.f39, Option.getD_some, Code.fst, Code.snd, Code.inn, aexec, aops, aop, Region.wanted, ayielded, aexecOp, aeval, aput, aseq, ablock, ahint, absOf, flat, nilCheckA, ANext.ofP, evals, evalPs, evalO, aresults, aresults1, aresult, aend, List.getElem?_set, List.length_set, Option.map_some, Option.bind_some, if_true, if_false, ↓reduceIte, Nat.reduceLT, Nat.reduceEqDiff, reduceCtorEq, Bool.false_eq_true, false_and, and_false, and_true, true_and, Nat.reduceAdd, Nat.reduceLeDiff, callA, List.getElem?_toArray, List.getElem?_cons_succ, List.getElem?_cons_zero, sb1, sb2, sb3, sb4, sliceU_i, sliceU_s, sliceU_p, sliceU_l, evalV, h0, h1, hl, hh, load_tab hs, store_tab hs0]
  exact ⟨_, rfl, by simp only [List.getElem?_set, List.length_set, Nat.reduceLT, Nat.reduceEqDiff, ↓reduceIte, reduceCtorEq, *]⟩

theorem tb_eq : code Try.f39 = .seq (code Try.f39).fst (.seq (code Try.f39).snd.fst (.seq (.seq (code Try.f39).snd.snd.fst.fst (.block 0 (.loop tbOut))) tbEnd)) := rfl

theorem table_run (st : ASt) : ∃ st', RetN E 300 39 [] st (.agg (tabC 256)) st' ∧ Gr st st' := by
  obtain ⟨ts1, e1, a0, a1, a4, al⟩ := tb_pre (run E 299) (drawB E 39) 299 (st := st) (ts := [] ++ List.replicate 25 .undef) rfl
  obtain ⟨ts2, s2, e2, b0, b1, bl, hc, hs1, hf⟩ := tb_outer (run E 299) (drawB E 39) 299 (by decide) (st := (st.new (.cells (tabC 0))).new (.cells (tabC 0))) a0 a1 a4 al (by simp [ASt.new])
  have hs0 : s2.heap st.ctr = some (.cells (tabC 0)) := by
    rw [hf _ (by omega)]; simp [ASt.new]
  obtain ⟨ts3, e3, c0⟩ := tb_end (run E 299) (drawB E 39) 299 (st := s2) (by rw [b0, a0]) (by rw [b1, a1]) bl hs1 hs0
  refine ⟨_, RetN.of (n := 300) (st' := s2.set st.ctr (some (.cells (tabC 256)))) ?_, ?_, ?_⟩
  · rw [run_code (fn := Try.f39) rfl rfl]
    have hts : ([] ++ List.replicate (Try.f39.ntmps - ([] : List AVal).length) .undef) = ([] ++ List.replicate 25 .undef : List AVal) := rfl
    rw [hts]
    have hp : aexec E 39 (run E 299) (drawB E 39) 299 (code Try.f39) ([] ++ List.replicate 25 .undef) st = some (.ret, ts3, s2.set st.ctr (some (.cells (tabC 256)))) := by
      rw [tb_eq]
      have e1' := e1
      rw [tbPre] at e1'
      simp only [aexec_seq, aexec_block, aexec_loop, aseq_assoc] at e1' ⊢
      have : ∀ f, aseq (aexec E 39 (run E 299) (drawB E 39) 299 (code Try.f39).fst ([] ++ List.replicate 25 .undef) st) (fun ts st => aseq (aexec E 39 (run E 299) (drawB E 39) 299 (code Try.f39).snd.fst ts st) (fun ts st => aseq (aexec E 39 (run E 299) (drawB E 39) 299 (code Try.f39).snd.snd.fst.fst ts st) f)) =
          aseq (some (.normal, ts1, (st.new (.cells (tabC 0))).new (.cells (tabC 0)))) f := by
        intro f
        rw [← e1']
        simp only [aseq_assoc]
      rw [this]
      simp only [aseq, e2, ablock, if_true, e3]
    rw [hp]
    have hr : aresults E Try.f39 ts3 (s2.set st.ctr (some (.cells (tabC 256)))) = some (.agg (tabC 256)) := by
      have hl := load_tab (st := s2.set st.ctr (some (.cells (tabC 256)))) (s := st.ctr) (i := 256) (by simp [ASt.set])
      unfold aresults
      simp only [Try.f39, aresults1, aresult, c0, hl]
    simp only [aend, hr, Option.map_some]
  · simp only [ASt.set, hc]; simp [ASt.new]; omega
  · intro j hj
    rw [ASt.set_ne _ _ _ _ (by omega), hf j (by omega), ASt.new_ne _ _ _ (by simp [ASt.new]; omega), ASt.new_ne _ _ _ (by omega)]

end Go.Proofs.YtnndngoanknemaaV

/- Sum's contract. No condition. -/
namespace Go.Proofs.YtnndngoanknemaaV
open Go Go.RowKit Go.Proofs.YtnndngoanknemaaA
set_option linter.unusedVariables false
set_option linter.unusedSimpArgs false
set_option maxRecDepth 100000

def sumStep (c : Nat) (b : UInt8) : Nat := tabN ((c % 256) ^^^ b.toNat) ^^^ (c / 256)
def sumN (l : List UInt8) : Nat := 4294967295 ^^^ l.foldl sumStep 4294967295

theorem xor256 (c : Nat) (b : UInt8) : (c % 256) ^^^ b.toNat < 256 := Nat.xor_lt_two_pow (n := 8) (Nat.mod_lt _ (by decide)) (UInt8.toNat_lt b)
theorem sumStep_lt {c : Nat} (h : c < 2 ^ 32) (b : UInt8) : sumStep c b < 2 ^ 32 :=
  Nat.xor_lt_two_pow (crcIt_lt 8 _ (Nat.lt_trans (xor256 c b) (by decide))) (by omega)
theorem sumFold_lt : ∀ (l : List UInt8) (c : Nat), c < 2 ^ 32 → l.foldl sumStep c < 2 ^ 32
  | [], c, h => h
  | b :: l, c, h => sumFold_lt l _ (sumStep_lt h b)
theorem sumN_lt (l : List UInt8) : sumN l < 2 ^ 32 := Nat.xor_lt_two_pow (by decide) (sumFold_lt l _ (by decide))

theorem shr_8 (x : Nat) : (x : Int).fdiv (2 ^ min (8 : Int).toNat (IntKind.bits .u32)) = ((x / 256 : Nat) : Int) := by
  rw [Int.fdiv_eq_ediv_of_nonneg _ (by decide)]
  rfl

noncomputable def smBody : Code := (code Try.f25).snd.snd.fst.snd.inn
noncomputable def smPre : Code := .seq (.seq (code Try.f25).fst (code Try.f25).snd.fst) (code Try.f25).snd.snd.fst.fst
noncomputable def smEnd : Code := (code Try.f25).snd.snd.snd
theorem sm_eq : code Try.f25 = .seq (code Try.f25).fst (.seq (code Try.f25).snd.fst (.seq (.seq (code Try.f25).snd.snd.fst.fst (.block 0 (.loop smBody))) smEnd)) := rfl
theorem sm_parts (call : ACall) (dr : Array Oper → Bool) (n : Nat) (ts : List AVal) (st : ASt) : aexec E 25 call dr n (code Try.f25) ts st =
    aseq (aexec E 25 call dr n smPre ts st) fun ts st => aseq (ablock 0 (aloop (aexec E 25 call dr n smBody) n ts st)) (aexec E 25 call dr n smEnd) := by
  rw [sm_eq, smPre]
  simp only [aexec_seq, aexec_block, aexec_loop, aseq_assoc]

theorem load_tabn {st : ASt} {s i : Nat} (hs : st.heap s = some (.cells (tabC 256))) (hi : i < 256) : loadA E.P 22 st (.ptr s i) = some (.lit (.int .u32 (tabN i : Nat))) := by
  have : loadA E.P 22 st (.ptr s i) = (match st.heap s with
    | some (.cells cs) => cs[i]?
    | _ => none) := rfl
  rw [this, hs, tabC_all]
  simp [hi]

theorem cf43 (a : List AVal) (st : ASt) : callFuncA E.P 39 a st = some (.enter 39 a st) := rfl

theorem sm_pre (N n : Nat) (hN : 300 ≤ N) (dr : Array Oper → Bool) {x : AVal} {l : List UInt8} {st st' : ASt} {ts : List AVal} (hx : BS st x l) (h0 : ts[0]? = some x) (hl : ts.length = 26) (ht : RetN E 300 39 [] st (.agg (tabC 256)) st') :
    ∃ ts', aexec E 25 (run E N) dr n smPre ts st = some (.normal, ts', (st'.new (.cells (tabC 0))).set st'.ctr (some (.cells (tabC 256)))) ∧ ts'[3]? = some (.ptr st'.ctr 0) ∧ ts'[4]? = some (.lit (.int .u32 (4294967295 : Nat))) ∧ ts'[8]? = some x ∧ ts'[9]? = some (.lit (.int .i64 l.length)) ∧ ts'[10]? = some (.lit (.int .i64 (0 : Nat))) ∧ ts'.length = 26 := by
  have hh : ∀ t, E.hint 25 t = false := fun _ => rfl
  have hc := ht N hN
  have hst := store_tab (st := st'.new (.cells (tabC 0))) (s := st'.ctr) (i := 0) (j := 256) (by simp [ASt.new])
  simp only [smPre, code, Try.f25, Option.getD_some, Code.fst, Code.snd, Code.inn, aexec, aops, aop, Region.wanted, ayielded, aexecOp, aeval, aput, aseq, ablock, ahint, absOf, flat, nilCheckA, ANext.ofP, evals, evalPs, evalO, aresults, aresults1, aresult, aend, List.getElem?_set, List.length_set, Option.map_some, Option.bind_some, if_true, if_false, ↓reduceIte, Nat.reduceLT, Nat.reduceEqDiff, reduceCtorEq, Bool.false_eq_true, false_and, and_false, and_true, true_and, Nat.reduceAdd, Nat.reduceLeDiff, callA, List.getElem?_toArray, List.getElem?_cons_succ, List.getElem?_cons_zero, sb1, sb2, sb3, sb4, sliceU_i, sliceU_s, sliceU_p, sliceU_l, evalV, h0, hl, hh, tb_alloc, cf43, hc, hst, bs_len hx]
  exact ⟨_, rfl, by simp only [List.getElem?_set, List.length_set, Nat.reduceLT, Nat.reduceEqDiff, ↓reduceIte, reduceCtorEq, *], by simp only [List.getElem?_set, List.length_set, Nat.reduceLT, Nat.reduceEqDiff, ↓reduceIte, reduceCtorEq, *]; rfl, by simp only [List.getElem?_set, List.length_set, Nat.reduceLT, Nat.reduceEqDiff, ↓reduceIte, reduceCtorEq, *], by simp only [List.getElem?_set, List.length_set, Nat.reduceLT, Nat.reduceEqDiff, ↓reduceIte, reduceCtorEq, *], by simp only [List.getElem?_set, List.length_set, Nat.reduceLT, Nat.reduceEqDiff, ↓reduceIte, reduceCtorEq, *]; rfl, by simp only [List.getElem?_set, List.length_set, Nat.reduceLT, Nat.reduceEqDiff, ↓reduceIte, reduceCtorEq, *]⟩

theorem sm_body (call : ACall) (dr : Array Oper → Bool) (n : Nat) {x : AVal} {l : List UInt8} {st : ASt} {ts : List AVal} {s c i : Nat} (hx : BS st x l) (hs : st.heap s = some (.cells (tabC 256))) (hc : c < 2 ^ 32) (hlt : l.length ≤ 1000000)
    (h3 : ts[3]? = some (.ptr s 0)) (h4 : ts[4]? = some (.lit (.int .u32 c))) (h8 : ts[8]? = some x) (h9 : ts[9]? = some (.lit (.int .i64 l.length))) (h10 : ts[10]? = some (.lit (.int .i64 i))) (hl : ts.length = 26) :
    (i = l.length → ∃ ts', aexec E 25 call dr n smBody ts st = some (.exit 0, ts', st) ∧ ts'[4]? = some (.lit (.int .u32 c)) ∧ ts'.length = 26) ∧
    (∀ h : i < l.length, ∃ ts', aexec E 25 call dr n smBody ts st = some (.normal, ts', st) ∧ ts'[3]? = some (.ptr s 0) ∧ ts'[4]? = some (.lit (.int .u32 (sumStep c l[i] : Nat))) ∧ ts'[8]? = some x ∧ ts'[9]? = some (.lit (.int .i64 l.length)) ∧ ts'[10]? = some (.lit (.int .i64 (i + 1 : Nat))) ∧ ts'.length = 26) := by
  have hh : ∀ t, E.hint 25 t = false := fun _ => rfl
  refine ⟨fun hi => ?_, fun hi => ?_⟩
  · have hd : decide ((i : Int) < l.length) = false := by simp; omega
    simp only [smBody, code, Try.f25, Option.getD_some, Code.fst, Code.snd, Code.inn, aexec, aops, aop, Region.wanted, ayielded, aexecOp, aeval, aput, aseq, ablock, ahint, absOf, flat, nilCheckA, ANext.ofP, evals, evalPs, evalO, aresults, aresults1, aresult, aend, List.getElem?_set, List.length_set, Option.map_some, Option.bind_some, if_true, if_false, ↓reduceIte, Nat.reduceLT, Nat.reduceEqDiff, reduceCtorEq, Bool.false_eq_true, false_and, and_false, and_true, true_and, Nat.reduceAdd, Nat.reduceLeDiff, callA, List.getElem?_toArray, List.getElem?_cons_succ, List.getElem?_cons_zero, sb1, sb2, sb3, sb4, sliceU_i, sliceU_s, sliceU_p, sliceU_l, evalV, h3, h4, h8, h9, h10, hl, hh, b_lss, hd]
    exact ⟨_, rfl, by simp only [List.getElem?_set, List.length_set, Nat.reduceLT, Nat.reduceEqDiff, ↓reduceIte, reduceCtorEq, *], by simp only [List.getElem?_set, List.length_set, Nat.reduceLT, Nat.reduceEqDiff, ↓reduceIte, reduceCtorEq, *]⟩
  · have hd : decide ((i : Int) < l.length) = true := by simp; omega
    obtain ⟨p1, i1, i2⟩ := bs_idx hx hi
    unfold byteA at i2
    have hw : IntKind.i64.wrap ((i : Int) + 1) = ((i + 1 : Nat) : Int) := by
      simp [IntKind.wrap, IntKind.bits, IntKind.signed]; omega
    have hcv := c_int (mt := false) (st := st) (k := .u32) (n := (c : Int)) u38 u5
    rw [wrap_u8] at hcv
    have hx1 := xor_nat (k := .u8) rfl (a := c % 256) (b := l[i].toNat) (Nat.mod_lt _ (by decide)) (UInt8.toNat_lt _)
    have hx2 := xor_nat (k := .u32) rfl (a := tabN ((c % 256) ^^^ l[i].toNat)) (b := c / 256) (crcIt_lt 8 _ (Nat.lt_trans (xor256 c l[i]) (by decide))) (by simp only [IntKind.bits]; omega)
    have hix := idx_arr (s := s) (xor256 c l[i]) .u8
    have hld := load_tabn hs (xor256 c l[i])
    simp only [smBody, code, Try.f25, Option.getD_some, Code.fst, Code.snd, Code.inn, aexec, aops, aop, Region.wanted, ayielded, aexecOp, aeval, aput, aseq, ablock, ahint, absOf, flat, nilCheckA, ANext.ofP, evals, evalPs, evalO, aresults, aresults1, aresult, aend, List.getElem?_set, List.length_set, Option.map_some, Option.bind_some, if_true, if_false, ↓reduceIte, Nat.reduceLT, Nat.reduceEqDiff, reduceCtorEq, Bool.false_eq_true, false_and, and_false, and_true, true_and, Nat.reduceAdd, Nat.reduceLeDiff, callA, List.getElem?_toArray, List.getElem?_cons_succ, List.getElem?_cons_zero, sb1, sb2, sb3, sb4, sliceU_i, sliceU_s, sliceU_p, sliceU_l, evalV, h3, h4, h8, h9, h10, hl, hh, b_lss, hd, i1, i2, hcv, b_xor, hx1, hix, hld, b_shr _ _ _ _ _ _ _ _ (show (0 : Int) ≤ 8 by decide), shr_8, hx2, b_add, hw]
    exact ⟨_, rfl, by simp only [List.getElem?_set, List.length_set, Nat.reduceLT, Nat.reduceEqDiff, ↓reduceIte, reduceCtorEq, *], by simp only [List.getElem?_set, List.length_set, Nat.reduceLT, Nat.reduceEqDiff, ↓reduceIte, reduceCtorEq, *]; rfl, by simp only [List.getElem?_set, List.length_set, Nat.reduceLT, Nat.reduceEqDiff, ↓reduceIte, reduceCtorEq, *], by simp only [List.getElem?_set, List.length_set, Nat.reduceLT, Nat.reduceEqDiff, ↓reduceIte, reduceCtorEq, *], by simp only [List.getElem?_set, List.length_set, Nat.reduceLT, Nat.reduceEqDiff, ↓reduceIte, reduceCtorEq, *], by simp only [List.getElem?_set, List.length_set, Nat.reduceLT, Nat.reduceEqDiff, ↓reduceIte, reduceCtorEq, *]⟩

theorem sm_loop (call : ACall) (dr : Array Oper → Bool) (n : Nat) {x : AVal} {l : List UInt8} {st : ASt} {ts : List AVal} {s : Nat} (hx : BS st x l) (hs : st.heap s = some (.cells (tabC 256))) (hlt : l.length ≤ 1000000) (hn : l.length < n)
    (h3 : ts[3]? = some (.ptr s 0)) (h4 : ts[4]? = some (.lit (.int .u32 (4294967295 : Nat)))) (h8 : ts[8]? = some x) (h9 : ts[9]? = some (.lit (.int .i64 l.length))) (h10 : ts[10]? = some (.lit (.int .i64 (0 : Nat)))) (hl : ts.length = 26) :
    ∃ ts', aloop (aexec E 25 call dr n smBody) n ts st = some (.exit 0, ts', st) ∧ ts'[4]? = some (.lit (.int .u32 (l.foldl sumStep 4294967295 : Nat))) ∧ ts'.length = 26 := by
  obtain ⟨e, ts', st', h, rfl, rfl, hq⟩ := aloop_rule (b := aexec E 25 call dr n smBody)
    (I := fun k ts1 s' => s' = st ∧ ∃ i c, k + i = l.length ∧ c < 2 ^ 32 ∧ (l.drop i).foldl sumStep c = l.foldl sumStep 4294967295 ∧ ts1[3]? = some (.ptr s 0) ∧ ts1[4]? = some (.lit (.int .u32 (c : Nat))) ∧ ts1[8]? = some x ∧ ts1[9]? = some (.lit (.int .i64 l.length)) ∧ ts1[10]? = some (.lit (.int .i64 (i : Nat))) ∧ ts1.length = 26)
    (Q := fun e ts' s' => s' = st ∧ e = .exit 0 ∧ ts'[4]? = some (.lit (.int .u32 (l.foldl sumStep 4294967295 : Nat))) ∧ ts'.length = 26)
    (step := by
      rintro k ts1 s' ⟨hs', i, c, hi, hc, hf, a3, a4, a8, a9, a10, al⟩
      rw [hs']
      have hb := sm_body call dr n (st := st) hx hs hc hlt a3 a4 a8 a9 a10 al
      by_cases he : i = l.length
      · obtain ⟨ts', e, b4, bl⟩ := hb.1 he
        rw [List.drop_of_length_le (by omega)] at hf
        exact .inr ⟨_, ts', _, e, by simp, rfl, rfl, by rw [b4, ← hf]; rfl, bl⟩
      · have hlt2 : i < l.length := by omega
        obtain ⟨ts', e, b3, b4, b8, b9, b10, bl⟩ := hb.2 hlt2
        refine .inl ⟨ts', _, e, k - 1, by omega, rfl, i + 1, _, by omega, sumStep_lt hc l[i], ?_, b3, b4, b8, b9, b10, bl⟩
        rw [← hf, List.drop_eq_getElem_cons hlt2]
        rfl)
    n l.length ts st ⟨rfl, 0, 4294967295, by omega, by decide, rfl, h3, h4, h8, h9, h10, hl⟩ hn
  exact ⟨ts', h, hq⟩

theorem sm_end (call : ACall) (dr : Array Oper → Bool) (n : Nat) {st : ASt} {ts : List AVal} {c : Nat} (h4 : ts[4]? = some (.lit (.int .u32 c))) (hl : ts.length = 26) (hc : c < 2 ^ 32) :
    ∃ ts', aexec E 25 call dr n smEnd ts st = some (.ret, ts', st) ∧ ts'[2]? = some (.lit (.int .u32 (4294967295 ^^^ c : Nat))) := by
  have hh : ∀ t, E.hint 25 t = false := fun _ => rfl
  have hx := xor_nat (k := .u32) rfl (a := 4294967295) (b := c) (by decide) hc
  have hu : pureV E.P (Op.unary .xor (.int .u32 c)) = some (.lit (.int .u32 (IntKind.u32.wrap (BitVec.ofInt IntKind.u32.bits ((4294967295 : Nat) : Int) ^^^ BitVec.ofInt IntKind.u32.bits (c : Int)).toNat))) := rfl
  rw [hx] at hu
  simp only [smEnd, code, Try.f25, Option.getD_some, Code.fst, Code.snd, Code.inn, aexec, aops, aop, Region.wanted, ayielded, aexecOp, aeval, aput, aseq, ablock, ahint, absOf, flat, nilCheckA, ANext.ofP, evals, evalPs, evalO, aresults, aresults1, aresult, aend, List.getElem?_set, List.length_set, Option.map_some, Option.bind_some, if_true, if_false, ↓reduceIte, Nat.reduceLT, Nat.reduceEqDiff, reduceCtorEq, Bool.false_eq_true, false_and, and_false, and_true, true_and, Nat.reduceAdd, Nat.reduceLeDiff, callA, List.getElem?_toArray, List.getElem?_cons_succ, List.getElem?_cons_zero, sb1, sb2, sb3, sb4, sliceU_i, sliceU_s, sliceU_p, sliceU_l, evalV, h4, hl, hh, YtnndngoanknemaaA.valOf, hu]
  exact ⟨_, rfl, by simp only [List.getElem?_set, List.length_set, Nat.reduceLT, Nat.reduceEqDiff, ↓reduceIte, reduceCtorEq, *]⟩

theorem sum_run {x : AVal} {l : List UInt8} {st : ASt} (hx : BS st x l) (hlt : l.length ≤ 1000000) : ∃ st', RetN E (l.length + 302) 25 [x] st (.lit (.int .u32 (sumN l : Nat))) st' ∧ Gr st st' := by
  obtain ⟨st1, ht, hg⟩ := table_run st
  obtain ⟨ts1, e1, a3, a4, a8, a9, a10, al⟩ := sm_pre (l.length + 301) (l.length + 301) (by omega) (drawB E 25) (ts := [x] ++ List.replicate 25 .undef) hx rfl rfl ht
  have hg' : Gr st ((st1.new (.cells (tabC 0))).set st1.ctr (some (.cells (tabC 256)))) := by
    have := hg.1
    refine ⟨by simp only [ASt.set, ASt.new]; omega, fun j hj => ?_⟩
    rw [ASt.set_ne _ _ _ _ (by omega), ASt.new_ne _ _ _ (by omega), hg.2 j hj]
  have hh : ((st1.new (.cells (tabC 0))).set st1.ctr (some (.cells (tabC 256)))).heap st1.ctr = some (.cells (tabC 256)) := by simp [ASt.set]
  obtain ⟨ts2, e2, b4, bl⟩ := sm_loop (run E (l.length + 301)) (drawB E 25) (l.length + 301) (hx.gr hg') hh hlt (by omega) a3 a4 a8 a9 a10 al
  obtain ⟨ts3, e3, c2⟩ := sm_end (run E (l.length + 301)) (drawB E 25) (l.length + 301) (st := (st1.new (.cells (tabC 0))).set st1.ctr (some (.cells (tabC 256)))) b4 bl (sumFold_lt l _ (by decide))
  refine ⟨(st1.new (.cells (tabC 0))).set st1.ctr (some (.cells (tabC 256))), RetN.of (n := l.length + 301 + 1) ?_, hg'⟩
  · rw [run_code (fn := Try.f25) rfl rfl]
    have hts : ([x] ++ List.replicate (Try.f25.ntmps - [x].length) .undef) = ([x] ++ List.replicate 25 .undef : List AVal) := rfl
    rw [hts, sm_parts]
    simp only [e1, aseq, e2, ablock, if_true, e3, aend]
    unfold aresults
    simp only [Try.f25, aresults1, aresult, c2]
    rfl

end Go.Proofs.YtnndngoanknemaaV

/- A reader's contracts: Read, At, Err, fail. No condition. -/
namespace Go.Proofs.YtnndngoanknemaaV
open Go Go.RowKit Go.Proofs.YtnndngoanknemaaA
set_option linter.unusedVariables false
set_option linter.unusedSimpArgs false
set_option maxRecDepth 100000

/-- a reader: its bytes, how many were taken, its error -/
def RAt (st : ASt) (s : Nat) (v : AVal) (l : List UInt8) (at' e : Nat) : Prop :=
  s < st.ctr ∧ st.heap s = some (.cells [v, .lit (.int .i64 at'), .lit (.int .i64 e)]) ∧ ∃ c, v = .islice 1 (l.map byteA) c

theorem build84 {v : AVal} {l : List UInt8} (h : IsB v l) : buildA E.P 79 [(0, v)] = some (.agg [v, .lit (.int .i64 0), .lit (.int .i64 0)]) := by
  rcases h with ⟨c, rfl⟩ | ⟨a, rfl, rfl⟩ <;> rfl

theorem chunk_bytes (cs : List AVal) : ∀ (n off : Nat), off + n ≤ cs.length → chunkA E.P 5 1 cs off n = some ((cs.drop off).take n)
  | 0, off, h => by simp [chunkA]
  | n + 1, off, h => by
    have e : partA E.P 5 cs off = cs[off]? := rfl
    rw [chunkA, e, List.getElem?_eq_getElem (by omega), chunk_bytes cs n (off + 1) (by omega), List.drop_eq_getElem_cons (by omega : off < cs.length)]
    rfl

theorem src_bs {v : AVal} {l : List UInt8} {st : ASt} (h : BS st v l) : srcA E.P 5 28 false 1 st v = some (l.map byteA) := by
  rcases h with h | ⟨s, off, cap, cs, rfl, h1, h2, h3, h4⟩
  · exact src_b h st
  · have e : srcA E.P 5 28 false 1 st (.slice s off l.length 1 cap) = (match st.heap s with
        | some (.cells cs) => match chunkA E.P 5 1 cs off l.length with
          | some es => if es.all (elemOk false 1) = true then some es else none
          | none => none
        | _ => none) := rfl
    have e2 : chunkA E.P 5 1 cs off l.length = some ((cs.drop off).take l.length) := chunk_bytes cs _ _ h3
    rw [e, h2]
    simp only [e2, h4, bytes_ok, if_true]

theorem read_code (call : ACall) (dr : Array Oper → Bool) (n : Nat) {x : AVal} {l : List UInt8} {st : ASt} {ts : List AVal} (h0 : ts[0]? = some x) (hl : ts.length = 8) (hx : srcA E.P 5 28 false 1 st x = some (l.map byteA)) (hlen : l.length ≤ 1000000) :
    ∃ s v st', aend E Try.f28 (aexec E 28 call dr n (code Try.f28) ts st) = some (.returned (.ptr s 0), st') ∧ RAt st' s v l 0 0 ∧ Gr st st' ∧ st.ctr ≤ s := by
  have hh : ∀ t, E.hint 28 t = false := fun _ => rfl
  have hb0 : buildSliceA E.P false 28 0 [] st = some (.islice 1 [] .exact, st) := rfl
  have hp : ∃ v st', appendA E.P false 28 28 (.islice 1 [] .exact) x st = some (v, st') ∧ (∃ c, v = .islice 1 (l.map byteA) c) ∧ Gr st st' := by
    by_cases he : l = []
    · subst he
      exact ⟨_, _, app_none byteT hx (.inr ⟨_, _, rfl⟩), ⟨_, rfl⟩, Gr.refl _⟩
    · refine ⟨_, _, app_exact byteT rfl hx (by simpa using he) (by simp; omega), ⟨_, by simp; rfl⟩, Gr.new _ _⟩
  obtain ⟨v, st', e, hv', hg⟩ := hp
  refine ⟨st'.ctr, v, st'.new (.cells [v, .lit (.int .i64 0), .lit (.int .i64 0)]), ?_, ?_, ?_, hg.1⟩
  · have hbx : boxA (.agg [v, .lit (.int .i64 0), .lit (.int .i64 0)]) st' = some (.ptr st'.ctr 0, st'.new (.cells [v, .lit (.int .i64 0), .lit (.int .i64 0)])) := by
      obtain ⟨c, rfl⟩ := hv'; rfl
    simp only [code, Try.f28, Option.getD_some, aexec, aops, aop, Region.wanted, ayielded, aexecOp, aeval, aput, aseq, ablock, ahint, absOf, flat, nilCheckA, ANext.ofP, evals, evalPs, evalO, aresults, aresults1, aresult, aend, List.getElem?_set, List.length_set, Option.map_some, Option.bind_some, if_true, if_false, ↓reduceIte, Nat.reduceLT, Nat.reduceEqDiff, reduceCtorEq, Bool.false_eq_true, false_and, and_false, and_true, true_and, Nat.reduceAdd, Nat.reduceLeDiff, callA, List.getElem?_toArray, List.getElem?_cons_succ, List.getElem?_cons_zero, sb1, sb2, sb3, sb4, sliceU_i, sliceU_s, sliceU_p, sliceU_l, evalV, h0, hl, hh, hb0, builtinA, e, build84 (.inl hv'), hbx]
  · exact ⟨by simp [ASt.new], by simp [ASt.new], hv'⟩
  · exact hg.trans (Gr.new _ _)

theorem read_run {x : AVal} {l : List UInt8} {st : ASt} (hx : BS st x l) (hlen : l.length ≤ 1000000) :
    ∃ s v st', RetN E 1 28 [x] st (.ptr s 0) st' ∧ RAt st' s v l 0 0 ∧ Gr st st' ∧ st.ctr ≤ s := by
  obtain ⟨s, v, st', e, h⟩ := read_code (run E 0) (drawB E 28) 0 (ts := [x] ++ List.replicate 7 .undef) rfl rfl (src_bs hx) hlen
  exact ⟨s, v, st', RetN.of (n := 1) (by rw [run_code (fn := Try.f28) rfl rfl]; exact e), h⟩

end Go.Proofs.YtnndngoanknemaaV

/- Awake. No condition. -/
namespace Go.Proofs.YtnndngoanknemaaV
open Go Go.RowKit Go.Proofs.YtnndngoanknemaaA
set_option linter.unusedVariables false
set_option linter.unusedSimpArgs false
set_option maxRecDepth 100000

theorem cf16 (a : List AVal) (st : ASt) : callFuncA E.P 11 a st = some (.enter 11 a st) := rfl
theorem cf17 (a : List AVal) (st : ASt) : callFuncA E.P 14 a st = some (.enter 14 a st) := rfl
theorem cf18 (a : List AVal) (st : ASt) : callFuncA E.P 13 a st = some (.enter 13 a st) := rfl
theorem cf21 (a : List AVal) (st : ASt) : callFuncA E.P 25 a st = some (.enter 25 a st) := rfl
theorem cf34 (a : List AVal) (st : ASt) : callFuncA E.P 28 a st = some (.enter 28 a st) := rfl

def nine : List UInt8 := [49, 50, 51, 52, 53, 54, 55, 56, 57]

theorem awake_run (st : ASt) : ∃ st', RetN E 2000 23 [] st (.lit (.bool true)) st' := by
  obtain ⟨s1, k1, n1, w1⟩ := num_run (x := 300) (wat_init st) (by decide) (by simp)
  obtain ⟨p, v, s2, n2, r2, g2, hp⟩ := read_run (x := .nilSlice) (l := []) (st := s1) (.inl (.inr ⟨none, rfl, rfl⟩)) (by simp)
  obtain ⟨v1, s3, n3, b1, g3⟩ := bytes_run (wat_gr w1.at' g2) (by have := enc_len 300; simp; omega)
  have b2 : IsB (.islice 1 [.lit (.int .u8 172), .lit (.int .u8 2)] .exact) [172, 2] := .inl ⟨_, rfl⟩
  have n4 := eq_run s3 b1 (.inl b2) (by have := enc_len 300; simp; omega)
  have he : ([] ++ enc 300 == [172, 2]) = true := by decide +kernel
  rw [he] at n4
  have b3 : BS (s3.new (.cells (nine.map byteA))) (.slice s3.ctr 0 9 1 (some 9)) nine := .inr ⟨s3.ctr, 0, some 9, nine.map byteA, rfl, by simp [ASt.new], by simp [ASt.new], by decide, rfl⟩
  obtain ⟨s5, n5, g5⟩ := sum_run b3 (by decide)
  have hs : sumN nine = 3421780262 := by decide +kernel
  rw [hs] at n5
  refine ⟨s5, RetN.of (n := 1999 + 1) ?_⟩
  rw [run_code (fn := Try.f23) rfl rfl]
  have c1 := n1 1999 (by decide)
  have c2 := n2 1999 (by decide)
  have c3 := n3 1999 (by decide)
  have c4 := n4 1999 (by have := enc_len 300; simp; omega)
  have c5 := n5 1999 (by decide)
  obtain ⟨ts, et, hl⟩ : ∃ ts : List AVal, (([] : List AVal) ++ List.replicate (Try.f23.ntmps - ([] : List AVal).length) .undef) = ts ∧ ts.length = 16 := ⟨_, rfl, rfl⟩
  rw [et]
  have e0 : ((300 : Nat) : Int) = 300 := rfl
  have e1 : ((3421780262 : Nat) : Int) = 3421780262 := rfl
  rw [e0] at c1
  rw [e1] at c5
  have h7 : E.hint 23 7 = false := rfl
  have h11 : E.hint 23 11 = true := rfl
  have hne : ∀ xo yo, binA E.P .neq 61 xo yo (.ptr p 0) (.lit (.pointer none)) = some (.lit (.bool true)) := fun _ _ => rfl
  have hb2 : buildSliceA E.P false 28 2 [(0, .lit (.int .u8 172)), (1, .lit (.int .u8 2))] s3 = some (.islice 1 [.lit (.int .u8 172), .lit (.int .u8 2)] .exact, s3) := rfl
  have hb9 : buildSliceA E.P true 28 9 [(0, .lit (.int .u8 49)), (1, .lit (.int .u8 50)), (2, .lit (.int .u8 51)), (3, .lit (.int .u8 52)), (4, .lit (.int .u8 53)), (5, .lit (.int .u8 54)), (6, .lit (.int .u8 55)), (7, .lit (.int .u8 56)), (8, .lit (.int .u8 57))] s3 = some (.slice s3.ctr 0 9 1 (some 9), s3.new (.cells (nine.map byteA))) := rfl
  have hcv : convA E.P false 28 28 (.slice s3.ctr 0 9 1 (some 9)) (s3.new (.cells (nine.map byteA))) = some (.slice s3.ctr 0 9 1 (some 9), s3.new (.cells (nine.map byteA))) := by
    have e : convA E.P false 28 28 (.slice s3.ctr 0 9 1 (some 9)) (s3.new (.cells (nine.map byteA))) = (match (s3.new (.cells (nine.map byteA))).heap s3.ctr with
        | some (.cells _) => some (.slice s3.ctr 0 9 1 (some 9), s3.new (.cells (nine.map byteA)))
        | _ => none) := rfl
    have e2 : (s3.new (.cells (nine.map byteA))).heap s3.ctr = some (.cells (nine.map byteA)) := by simp [ASt.new]
    rw [e, e2]
  have h12 : E.hint 23 12 = false := rfl
  simp only [AVal.nilSlice] at c2
  simp only [code, Try.f23, Option.getD_some, aexec, aops, aop, Region.wanted, ayielded, aexecOp, aeval, aput, aseq, ablock, ahint, absOf, flat, nilCheckA, ANext.ofP, evals, evalPs, evalO, aresults, aresults1, aresult, aend, List.getElem?_set, List.length_set, Option.map_some, Option.bind_some, if_true, if_false, ↓reduceIte, Nat.reduceLT, Nat.reduceEqDiff, reduceCtorEq, Bool.false_eq_true, false_and, and_false, and_true, true_and, Nat.reduceAdd, Nat.reduceLeDiff, callA, List.getElem?_toArray, List.getElem?_cons_succ, List.getElem?_cons_zero, sb1, sb2, sb3, sb4, sliceU_i, sliceU_s, sliceU_p, sliceU_l, evalV, hl, h7, h11, h12, alloc_w, cf16, cf17, cf18, cf21, cf34, c1, c2, c3, c4, c5, hne, hb2, hb9, hcv, b_eql, beq_self_eq_true]

theorem awake : ∃ s0, AwakeIs s0 := by
  obtain ⟨s, h⟩ := awake_run st0
  exact ⟨s, 2000, h⟩

end Go.Proofs.YtnndngoanknemaaV
