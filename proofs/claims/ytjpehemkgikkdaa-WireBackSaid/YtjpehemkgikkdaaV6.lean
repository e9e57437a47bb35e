/- The table's contract. No condition. -/
import Derived.Test.YtjpehemkgikkdaaV5
namespace Go.Proofs.YtjpehemkgikkdaaV
open Go Go.RowKit Go.Proofs.YtjpehemkgikkdaaA
set_option linter.unusedVariables false
set_option linter.unusedSimpArgs false
set_option maxRecDepth 100000

/-! ### bits of numbers -/
theorem wrap_u {k : IntKind} (hk : k.signed = false) {n : Nat} (h : n < 2 ^ k.bits) : k.wrap (n : Int) = (n : Int) := by
  unfold IntKind.wrap
  rw [hk]
  simp only [Bool.false_and, Bool.false_eq_true, if_false]
  exact Int.emod_eq_of_lt (by omega) (by exact_mod_cast h)

theorem and_nat {k : IntKind} (hk : k.signed = false) {a b : Nat} (ha : a < 2 ^ k.bits) (hb : b < 2 ^ k.bits) :
    k.wrap ((BitVec.ofInt k.bits (a : Int) &&& BitVec.ofInt k.bits (b : Int)).toNat : Int) = ((a &&& b : Nat) : Int) := by
  rw [BitVec.ofInt_natCast, BitVec.ofInt_natCast, BitVec.toNat_and, BitVec.toNat_ofNat, BitVec.toNat_ofNat, Nat.mod_eq_of_lt ha, Nat.mod_eq_of_lt hb]
  exact wrap_u hk (Nat.and_lt_two_pow _ hb)

theorem or_nat {k : IntKind} (hk : k.signed = false) {a b : Nat} (ha : a < 2 ^ k.bits) (hb : b < 2 ^ k.bits) :
    k.wrap ((BitVec.ofInt k.bits (a : Int) ||| BitVec.ofInt k.bits (b : Int)).toNat : Int) = ((a ||| b : Nat) : Int) := by
  rw [BitVec.ofInt_natCast, BitVec.ofInt_natCast, BitVec.toNat_or, BitVec.toNat_ofNat, BitVec.toNat_ofNat, Nat.mod_eq_of_lt ha, Nat.mod_eq_of_lt hb]
  exact wrap_u hk (Nat.or_lt_two_pow ha hb)

theorem xor_nat {k : IntKind} (hk : k.signed = false) {a b : Nat} (ha : a < 2 ^ k.bits) (hb : b < 2 ^ k.bits) :
    k.wrap ((BitVec.ofInt k.bits (a : Int) ^^^ BitVec.ofInt k.bits (b : Int)).toNat : Int) = ((a ^^^ b : Nat) : Int) := by
  rw [BitVec.ofInt_natCast, BitVec.ofInt_natCast, BitVec.toNat_xor, BitVec.toNat_ofNat, BitVec.toNat_ofNat, Nat.mod_eq_of_lt ha, Nat.mod_eq_of_lt hb]
  exact wrap_u hk (Nat.xor_lt_two_pow ha hb)

def crcStep (c : Nat) : Nat := if c &&& 1 = 1 then c / 2 ^^^ 3988292384 else c / 2
def crcIt : Nat → Nat → Nat
  | 0, c => c
  | n + 1, c => crcIt n (crcStep c)
def tabN (i : Nat) : Nat := crcIt 8 i

theorem crcStep_lt {c : Nat} (h : c < 2 ^ 32) : crcStep c < 2 ^ 32 := by
  unfold crcStep
  split
  · exact Nat.xor_lt_two_pow (by omega) (by decide)
  · omega
theorem crcIt_lt : ∀ (n c : Nat), c < 2 ^ 32 → crcIt n c < 2 ^ 32
  | 0, c, h => h
  | n + 1, c, h => crcIt_lt n _ (crcStep_lt h)

theorem shr_u32 (x : Nat) : (x : Int).fdiv (2 ^ min (1 : Int).toNat (IntKind.bits .u32)) = ((x / 2 : Nat) : Int) := by
  rw [Int.fdiv_eq_ediv_of_nonneg _ (by decide)]
  rfl

noncomputable def tbOut : Code := (code Try.f43).snd.snd.fst.snd.inn
noncomputable def tbIn : Code := tbOut.snd.snd.fst.inn.snd.snd.fst.snd.inn
noncomputable def tbHead : Code := .seq tbOut.fst tbOut.snd.fst
noncomputable def tbMid : Code := .seq (.seq tbOut.snd.snd.fst.inn.fst tbOut.snd.snd.fst.inn.snd.fst) tbOut.snd.snd.fst.inn.snd.snd.fst.fst
noncomputable def tbPut : Code := tbOut.snd.snd.fst.inn.snd.snd.snd
noncomputable def tbInc : Code := tbOut.snd.snd.snd
noncomputable def tbPre : Code := .seq (.seq (code Try.f43).fst (code Try.f43).snd.fst) (code Try.f43).snd.snd.fst.fst
noncomputable def tbEnd : Code := (code Try.f43).snd.snd.snd

theorem tb_in (call : ACall) (dr : Array Oper → Bool) (n : Nat) {c k : Nat} {st : ASt} {ts : List AVal} (h3 : ts[3]? = some (.lit (.int .u32 c))) (h9 : ts[9]? = some (.lit (.int .i64 k))) (hl : ts.length = 25) (hc : c < 2 ^ 32) :
    (k = 8 → ∃ ts', aexec E 43 call dr n tbIn ts st = some (.exit 2, ts', st) ∧ ts'[3]? = some (.lit (.int .u32 c)) ∧ ts'.length = 25 ∧ ts'[0]? = ts[0]? ∧ ts'[1]? = ts[1]? ∧ ts'[2]? = ts[2]? ∧ ts'[4]? = ts[4]?) ∧
    (k < 8 → ∃ ts', aexec E 43 call dr n tbIn ts st = some (.normal, ts', st) ∧ ts'[3]? = some (.lit (.int .u32 (crcStep c : Nat))) ∧ ts'[9]? = some (.lit (.int .i64 (k + 1 : Nat))) ∧ ts'.length = 25 ∧ ts'[0]? = ts[0]? ∧ ts'[1]? = ts[1]? ∧ ts'[2]? = ts[2]? ∧ ts'[4]? = ts[4]?) := by
  have hh : ∀ t, E.hint 43 t = false := fun _ => rfl
  refine ⟨fun hk => ?_, fun hk => ?_⟩
  · have hd : decide ((k : Int) < 8) = false := by simp; omega
    simp only [tbIn, tbOut, code, Try.f43, Option.getD_some, Code.fst, Code.snd, Code.inn, aexec, aops, aop, Region.wanted, ayielded, aexecOp, aeval, aput, aseq, ablock, ahint, absOf, flat, nilCheckA, ANext.ofP, evals, evalPs, evalO, aresults, aresults1, aresult, aend, List.getElem?_set, List.length_set, Option.map_some, Option.bind_some, if_true, if_false, ↓reduceIte, Nat.reduceLT, Nat.reduceEqDiff, reduceCtorEq, Bool.false_eq_true, false_and, and_false, and_true, true_and, Nat.reduceAdd, Nat.reduceLeDiff, callA, List.getElem?_toArray, List.getElem?_cons_succ, List.getElem?_cons_zero, sb1, sb2, sb3, sb4, h3, h9, hl, hh, b_lss, hd]
    exact ⟨_, rfl, by simp [h3], by simp [hl], by simp, by simp, by simp, by simp⟩
  · have hd : decide ((k : Int) < 8) = true := by simp; omega
    have hw : IntKind.i64.wrap ((k : Int) + 1) = ((k + 1 : Nat) : Int) := by
      simp [IntKind.wrap, IntKind.bits, IntKind.signed]; omega
    have ha := and_nat (k := .u32) rfl (a := c) (b := 1) hc (by decide)
    have e1 : ((1 : Nat) : Int) = 1 := rfl
    rw [e1] at ha
    by_cases hb : c &&& 1 = 1
    · have hx := xor_nat (k := .u32) rfl (a := c / 2) (b := 3988292384) (by simp only [IntKind.bits]; omega) (by decide)
      have e2 : ((3988292384 : Nat) : Int) = 3988292384 := rfl
      rw [e2] at hx
      have hq : (((c &&& 1 : Nat) : Int) == 1) = true := by rw [hb]; rfl
      have hs : crcStep c = c / 2 ^^^ 3988292384 := by rw [crcStep, if_pos hb]
      simp only [tbIn, tbOut, code, Try.f43, Option.getD_some, Code.fst, Code.snd, Code.inn, aexec, aops, aop, Region.wanted, ayielded, aexecOp, aeval, aput, aseq, ablock, ahint, absOf, flat, nilCheckA, ANext.ofP, evals, evalPs, evalO, aresults, aresults1, aresult, aend, List.getElem?_set, List.length_set, Option.map_some, Option.bind_some, if_true, if_false, ↓reduceIte, Nat.reduceLT, Nat.reduceEqDiff, reduceCtorEq, Bool.false_eq_true, false_and, and_false, and_true, true_and, Nat.reduceAdd, Nat.reduceLeDiff, callA, List.getElem?_toArray, List.getElem?_cons_succ, List.getElem?_cons_zero, sb1, sb2, sb3, sb4, h3, h9, hl, hh, b_lss, hd, b_and, ha, b_eql, hq, b_shr _ _ _ _ _ _ _ _ (show (0 : Int) ≤ 1 by decide), shr_u32, b_xor, hx, b_add, hw]
      exact ⟨_, rfl, by simp [hl, hs], by simp [hl], by simp [hl], by simp, by simp, by simp, by simp⟩
    · have hq : (((c &&& 1 : Nat) : Int) == 1) = false := by
        rw [beq_eq_false_iff_ne]; intro e; exact hb (by exact_mod_cast e)
      have hs : crcStep c = c / 2 := by rw [crcStep, if_neg hb]
      simp only [tbIn, tbOut, code, Try.f43, Option.getD_some, Code.fst, Code.snd, Code.inn, aexec, aops, aop, Region.wanted, ayielded, aexecOp, aeval, aput, aseq, ablock, ahint, absOf, flat, nilCheckA, ANext.ofP, evals, evalPs, evalO, aresults, aresults1, aresult, aend, List.getElem?_set, List.length_set, Option.map_some, Option.bind_some, if_true, if_false, ↓reduceIte, Nat.reduceLT, Nat.reduceEqDiff, reduceCtorEq, Bool.false_eq_true, false_and, and_false, and_true, true_and, Nat.reduceAdd, Nat.reduceLeDiff, callA, List.getElem?_toArray, List.getElem?_cons_succ, List.getElem?_cons_zero, sb1, sb2, sb3, sb4, h3, h9, hl, hh, b_lss, hd, b_and, ha, b_eql, hq, b_shr _ _ _ _ _ _ _ _ (show (0 : Int) ≤ 1 by decide), shr_u32, b_add, hw]
      exact ⟨_, rfl, by simp [hl, hs], by simp [hl], by simp [hl], by simp, by simp, by simp, by simp⟩

theorem tb_loop (call : ACall) (dr : Array Oper → Bool) (n : Nat) {c : Nat} {st : ASt} {ts : List AVal} (h3 : ts[3]? = some (.lit (.int .u32 c))) (h9 : ts[9]? = some (.lit (.int .i64 (0 : Nat)))) (hl : ts.length = 25) (hc : c < 2 ^ 32) (hn : 8 < n) :
    ∃ ts', aloop (aexec E 43 call dr n tbIn) n ts st = some (.exit 2, ts', st) ∧ ts'[3]? = some (.lit (.int .u32 (crcIt 8 c : Nat))) ∧ ts'.length = 25 ∧ ts'[0]? = ts[0]? ∧ ts'[1]? = ts[1]? ∧ ts'[2]? = ts[2]? ∧ ts'[4]? = ts[4]? := by
  obtain ⟨e, ts', st', h, rfl, rfl, hq⟩ := aloop_rule (b := aexec E 43 call dr n tbIn)
    (I := fun k ts1 s => s = st ∧ k ≤ 8 ∧ ∃ x, x < 2 ^ 32 ∧ crcIt k x = crcIt 8 c ∧ ts1[3]? = some (.lit (.int .u32 (x : Nat))) ∧ ts1[9]? = some (.lit (.int .i64 (8 - k : Nat))) ∧ ts1.length = 25 ∧ ts1[0]? = ts[0]? ∧ ts1[1]? = ts[1]? ∧ ts1[2]? = ts[2]? ∧ ts1[4]? = ts[4]?)
    (Q := fun e ts' s => s = st ∧ e = .exit 2 ∧ ts'[3]? = some (.lit (.int .u32 (crcIt 8 c : Nat))) ∧ ts'.length = 25 ∧ ts'[0]? = ts[0]? ∧ ts'[1]? = ts[1]? ∧ ts'[2]? = ts[2]? ∧ ts'[4]? = ts[4]?)
    (step := by
      rintro k ts1 s ⟨hs, hk, x, hx, hit, a3, a9, al, a0, a1, a2, a4⟩
      rw [hs]
      cases k with
      | zero =>
        obtain ⟨ts', e, b3, bl, b0, b1, b2, b4⟩ := (tb_in call dr n (st := st) a3 a9 al hx).1 rfl
        exact .inr ⟨_, ts', _, e, by simp, rfl, rfl, by rw [b3, ← hit]; rfl, bl, by rw [b0, a0], by rw [b1, a1], by rw [b2, a2], by rw [b4, a4]⟩
      | succ k =>
        obtain ⟨ts', e, b3, b9, bl, b0, b1, b2, b4⟩ := (tb_in call dr n (st := st) a3 a9 al hx).2 (by omega)
        exact .inl ⟨ts', _, e, k, by omega, rfl, by omega, crcStep x, crcStep_lt hx, hit, b3, by rw [b9]; congr 5; omega, bl, by rw [b0, a0], by rw [b1, a1], by rw [b2, a2], by rw [b4, a4]⟩)
    n 8 ts st ⟨rfl, Nat.le_refl _, c, hc, rfl, h3, h9, hl, rfl, rfl, rfl, rfl⟩ hn
  exact ⟨ts', h, hq⟩

end Go.Proofs.YtjpehemkgikkdaaV
