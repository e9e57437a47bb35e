/- bits.Len64's contract. No condition. -/
import Derived.Test.YtjpehemkgikkdaaW0
namespace Go.Proofs.YtjpehemkgikkdaaV
open Go Go.RowKit Go.Proofs.YtjpehemkgikkdaaA
set_option linter.unusedVariables false
set_option linter.unusedSimpArgs false
set_option maxRecDepth 100000

/-- so many bits -/
def Bits (x m : Nat) : Prop := (x = 0 ∧ m = 0) ∨ (1 ≤ m ∧ 2 ^ (m - 1) ≤ x ∧ x < 2 ^ m)

theorem Bits.up {x m : Nat} (k : Nat) (h : Bits (x / 2 ^ k) m) (hx : 2 ^ k ≤ x) : Bits x (m + k) := by
  have hpos : 0 < 2 ^ k := Nat.pow_pos (by decide)
  rcases h with ⟨h0, _⟩ | ⟨h1, h2, h3⟩
  · have := Nat.div_pos hx hpos; omega
  · refine .inr ⟨by omega, ?_, ?_⟩
    · rw [Nat.le_div_iff_mul_le hpos] at h2
      have e : m + k - 1 = (m - 1) + k := by omega
      rw [e, Nat.pow_add]; exact h2
    · rw [Nat.div_lt_iff_lt_mul hpos] at h3
      rw [Nat.pow_add]; exact h3

noncomputable def lenTab : Value := match (code Try.f30).snd.snd.snd.snd.fst.ops[3]? with
  | some o => match o.op with
    | .index _ (.const v) _ => v
    | _ => .nilFunc
  | none => .nilFunc

def tabOk (P : Program) (v : Value) (y : Nat) : Bool := match pureV P (Instr.index 9 v (.int .u8 y)) with
  | some (.lit (.int .u8 n)) => decide ((y = 0 ∧ n = 0) ∨ (1 ≤ n ∧ 2 ^ (n.toNat - 1) ≤ y ∧ y < 2 ^ n.toNat))
  | _ => false

theorem tab_all : ∀ y : Fin 256, tabOk E.P lenTab y.val = true := by decide +kernel

theorem tab_at {y : Nat} (h : y < 256) : ∃ n : Nat, pureV E.P (Instr.index 9 lenTab (.int .u8 y)) = some (.lit (.int .u8 (n : Nat))) ∧ Bits y n ∧ n ≤ 8 := by
  have := tab_all ⟨y, h⟩
  unfold tabOk at this
  split at this
  · rename_i n e
    have hd := of_decide_eq_true this
    simp only at e hd
    obtain ⟨m, rfl⟩ : ∃ m : Nat, n = (m : Int) := ⟨n.toNat, by omega⟩
    refine ⟨m, e, ?_, ?_⟩
    · rcases hd with ⟨h1, h2⟩ | ⟨h1, h2, h3⟩
      · exact .inl ⟨h1, by omega⟩
      · exact .inr ⟨by omega, by simpa using h2, by simpa using h3⟩
    · rcases hd with ⟨h1, h2⟩ | ⟨h1, h2, h3⟩
      · omega
      · by_cases hm : m ≤ 8
        · exact hm
        · have h5 : 2 ^ 8 ≤ 2 ^ (m - 1) := Nat.pow_le_pow_right (by decide) (by omega)
          simp only [Int.toNat_natCast] at h2
          omega
  · cases this

theorem shr_32 (x : Nat) : (x : Int).fdiv (2 ^ min (32 : Int).toNat (IntKind.bits .u64)) = ((x / 2 ^ 32 : Nat) : Int) := by
  rw [Int.fdiv_eq_ediv_of_nonneg _ (by decide)]; rfl
theorem shr_16 (x : Nat) : (x : Int).fdiv (2 ^ min (16 : Int).toNat (IntKind.bits .u64)) = ((x / 2 ^ 16 : Nat) : Int) := by
  rw [Int.fdiv_eq_ediv_of_nonneg _ (by decide)]; rfl
theorem shr_8' (x : Nat) : (x : Int).fdiv (2 ^ min (8 : Int).toNat (IntKind.bits .u64)) = ((x / 2 ^ 8 : Nat) : Int) := by
  rw [Int.fdiv_eq_ediv_of_nonneg _ (by decide)]; rfl

theorem len64_code (call : ACall) (dr : Array Oper → Bool) (n : Nat) {x : Nat} (hx : x < 2 ^ 64) {st : ASt} {ts : List AVal} (h0 : ts[0]? = some (.lit (.int .u64 x))) (hl : ts.length = 25) :
    ∃ m : Nat, aend E Try.f30 (aexec E 30 call dr n (code Try.f30) ts st) = some (.returned (.lit (.int .i64 (m : Nat))), st) ∧ Bits x m ∧ m ≤ 64 := by
  have hh : ∀ t, E.hint 30 t = false := fun _ => rfl
  by_cases g0 : 4294967296 ≤ x
  · have d0 : decide ((((x) : Nat) : Int) ≥ 4294967296) = true := by simp only [ge_iff_le, decide_eq_true_eq, decide_eq_false_iff_not]; omega
    by_cases g1 : 65536 ≤ (x) / 2 ^ 32
    · have d1 : decide (((((x) / 2 ^ 32) : Nat) : Int) ≥ 65536) = true := by simp only [ge_iff_le, decide_eq_true_eq, decide_eq_false_iff_not]; omega
      by_cases g2 : 256 ≤ ((x) / 2 ^ 32) / 2 ^ 16
      · have d2 : decide ((((((x) / 2 ^ 32) / 2 ^ 16) : Nat) : Int) ≥ 256) = true := by simp only [ge_iff_le, decide_eq_true_eq, decide_eq_false_iff_not]; omega
        obtain ⟨m, hm, hb, hm8⟩ := tab_at (y := (((x) / 2 ^ 32) / 2 ^ 16) / 2 ^ 8) (by omega)
        simp only [lenTab, code, Try.f30, Option.getD_some, Code.fst, Code.snd, Code.ops, List.getElem?_toArray, List.getElem?_cons_succ, List.getElem?_cons_zero] at hm
        have hc := c_int (mt := false) (st := st) (k := .u64) (n := ((((((x) / 2 ^ 32) / 2 ^ 16) / 2 ^ 8) : Nat) : Int)) u22 u5
        rw [wrap_u8, Nat.mod_eq_of_lt (by omega)] at hc
        have hc2 := c_int (mt := false) (st := st) (k := .u8) (n := ((m : Nat) : Int)) u5 u3
        rw [show IntKind.i64.wrap ((m : Nat) : Int) = ((m : Nat) : Int) by simp [IntKind.wrap, IntKind.bits, IntKind.signed]; omega] at hc2
        have e0 : IntKind.i64.wrap (32 + 16) = 48 := rfl
        have e1 : IntKind.i64.wrap (48 + 8) = 56 := rfl
        have ez : IntKind.i64.wrap ((56 : Int) + ((m : Nat) : Int)) = ((m + 56 : Nat) : Int) := by simp [IntKind.wrap, IntKind.bits, IntKind.signed]; omega
        refine ⟨m + 56, ?_, ?_, by omega⟩
        · simp only [code, Try.f30, Option.getD_some, aexec, aops, aop, Region.wanted, ayielded, aexecOp, aeval, aput, aseq, ablock, ahint, absOf, flat, nilCheckA, ANext.ofP, evals, evalPs, evalO, aresults, aresults1, aresult, aend, List.getElem?_set, List.length_set, Option.map_some, Option.bind_some, if_true, if_false, ↓reduceIte, Nat.reduceLT, Nat.reduceEqDiff, reduceCtorEq, Bool.false_eq_true, false_and, and_false, and_true, true_and, Nat.reduceAdd, Nat.reduceLeDiff, callA, List.getElem?_toArray, List.getElem?_cons_succ, List.getElem?_cons_zero, sb1, sb2, sb3, sb4, h0, hl, hh, b_geq, d0, d1, d2, b_shr _ _ _ _ _ _ _ _ (show (0 : Int) ≤ 32 by decide), b_shr _ _ _ _ _ _ _ _ (show (0 : Int) ≤ 16 by decide), b_shr _ _ _ _ _ _ _ _ (show (0 : Int) ≤ 8 by decide), shr_32, shr_16, shr_8', b_add, hc, hm, hc2, e0, e1, ez]
        · have q0 := hb
          have q1 := Bits.up 8 q0 (by omega)
          have q2 := Bits.up 16 q1 (by omega)
          have q3 := Bits.up 32 q2 (by omega)
          have eq : m + 56 = m + 8 + 16 + 32 := by omega
          rw [eq]; exact q3
      · have d2 : decide ((((((x) / 2 ^ 32) / 2 ^ 16) : Nat) : Int) ≥ 256) = false := by simp only [ge_iff_le, decide_eq_true_eq, decide_eq_false_iff_not]; omega
        obtain ⟨m, hm, hb, hm8⟩ := tab_at (y := ((x) / 2 ^ 32) / 2 ^ 16) (by omega)
        simp only [lenTab, code, Try.f30, Option.getD_some, Code.fst, Code.snd, Code.ops, List.getElem?_toArray, List.getElem?_cons_succ, List.getElem?_cons_zero] at hm
        have hc := c_int (mt := false) (st := st) (k := .u64) (n := (((((x) / 2 ^ 32) / 2 ^ 16) : Nat) : Int)) u22 u5
        rw [wrap_u8, Nat.mod_eq_of_lt (by omega)] at hc
        have hc2 := c_int (mt := false) (st := st) (k := .u8) (n := ((m : Nat) : Int)) u5 u3
        rw [show IntKind.i64.wrap ((m : Nat) : Int) = ((m : Nat) : Int) by simp [IntKind.wrap, IntKind.bits, IntKind.signed]; omega] at hc2
        have e0 : IntKind.i64.wrap (32 + 16) = 48 := rfl
        have ez : IntKind.i64.wrap ((48 : Int) + ((m : Nat) : Int)) = ((m + 48 : Nat) : Int) := by simp [IntKind.wrap, IntKind.bits, IntKind.signed]; omega
        refine ⟨m + 48, ?_, ?_, by omega⟩
        · simp only [code, Try.f30, Option.getD_some, aexec, aops, aop, Region.wanted, ayielded, aexecOp, aeval, aput, aseq, ablock, ahint, absOf, flat, nilCheckA, ANext.ofP, evals, evalPs, evalO, aresults, aresults1, aresult, aend, List.getElem?_set, List.length_set, Option.map_some, Option.bind_some, if_true, if_false, ↓reduceIte, Nat.reduceLT, Nat.reduceEqDiff, reduceCtorEq, Bool.false_eq_true, false_and, and_false, and_true, true_and, Nat.reduceAdd, Nat.reduceLeDiff, callA, List.getElem?_toArray, List.getElem?_cons_succ, List.getElem?_cons_zero, sb1, sb2, sb3, sb4, h0, hl, hh, b_geq, d0, d1, d2, b_shr _ _ _ _ _ _ _ _ (show (0 : Int) ≤ 32 by decide), b_shr _ _ _ _ _ _ _ _ (show (0 : Int) ≤ 16 by decide), b_shr _ _ _ _ _ _ _ _ (show (0 : Int) ≤ 8 by decide), shr_32, shr_16, shr_8', b_add, hc, hm, hc2, e0, ez]
        · have q0 := hb
          have q1 := Bits.up 16 q0 (by omega)
          have q2 := Bits.up 32 q1 (by omega)
          have eq : m + 48 = m + 16 + 32 := by omega
          rw [eq]; exact q2
    · have d1 : decide (((((x) / 2 ^ 32) : Nat) : Int) ≥ 65536) = false := by simp only [ge_iff_le, decide_eq_true_eq, decide_eq_false_iff_not]; omega
      by_cases g2 : 256 ≤ (x) / 2 ^ 32
      · have d2 : decide (((((x) / 2 ^ 32) : Nat) : Int) ≥ 256) = true := by simp only [ge_iff_le, decide_eq_true_eq, decide_eq_false_iff_not]; omega
        obtain ⟨m, hm, hb, hm8⟩ := tab_at (y := ((x) / 2 ^ 32) / 2 ^ 8) (by omega)
        simp only [lenTab, code, Try.f30, Option.getD_some, Code.fst, Code.snd, Code.ops, List.getElem?_toArray, List.getElem?_cons_succ, List.getElem?_cons_zero] at hm
        have hc := c_int (mt := false) (st := st) (k := .u64) (n := (((((x) / 2 ^ 32) / 2 ^ 8) : Nat) : Int)) u22 u5
        rw [wrap_u8, Nat.mod_eq_of_lt (by omega)] at hc
        have hc2 := c_int (mt := false) (st := st) (k := .u8) (n := ((m : Nat) : Int)) u5 u3
        rw [show IntKind.i64.wrap ((m : Nat) : Int) = ((m : Nat) : Int) by simp [IntKind.wrap, IntKind.bits, IntKind.signed]; omega] at hc2
        have e0 : IntKind.i64.wrap (32 + 8) = 40 := rfl
        have ez : IntKind.i64.wrap ((40 : Int) + ((m : Nat) : Int)) = ((m + 40 : Nat) : Int) := by simp [IntKind.wrap, IntKind.bits, IntKind.signed]; omega
        refine ⟨m + 40, ?_, ?_, by omega⟩
        · simp only [code, Try.f30, Option.getD_some, aexec, aops, aop, Region.wanted, ayielded, aexecOp, aeval, aput, aseq, ablock, ahint, absOf, flat, nilCheckA, ANext.ofP, evals, evalPs, evalO, aresults, aresults1, aresult, aend, List.getElem?_set, List.length_set, Option.map_some, Option.bind_some, if_true, if_false, ↓reduceIte, Nat.reduceLT, Nat.reduceEqDiff, reduceCtorEq, Bool.false_eq_true, false_and, and_false, and_true, true_and, Nat.reduceAdd, Nat.reduceLeDiff, callA, List.getElem?_toArray, List.getElem?_cons_succ, List.getElem?_cons_zero, sb1, sb2, sb3, sb4, h0, hl, hh, b_geq, d0, d1, d2, b_shr _ _ _ _ _ _ _ _ (show (0 : Int) ≤ 32 by decide), b_shr _ _ _ _ _ _ _ _ (show (0 : Int) ≤ 16 by decide), b_shr _ _ _ _ _ _ _ _ (show (0 : Int) ≤ 8 by decide), shr_32, shr_16, shr_8', b_add, hc, hm, hc2, e0, ez]
        · have q0 := hb
          have q1 := Bits.up 8 q0 (by omega)
          have q2 := Bits.up 32 q1 (by omega)
          have eq : m + 40 = m + 8 + 32 := by omega
          rw [eq]; exact q2
      · have d2 : decide (((((x) / 2 ^ 32) : Nat) : Int) ≥ 256) = false := by simp only [ge_iff_le, decide_eq_true_eq, decide_eq_false_iff_not]; omega
        obtain ⟨m, hm, hb, hm8⟩ := tab_at (y := (x) / 2 ^ 32) (by omega)
        simp only [lenTab, code, Try.f30, Option.getD_some, Code.fst, Code.snd, Code.ops, List.getElem?_toArray, List.getElem?_cons_succ, List.getElem?_cons_zero] at hm
        have hc := c_int (mt := false) (st := st) (k := .u64) (n := ((((x) / 2 ^ 32) : Nat) : Int)) u22 u5
        rw [wrap_u8, Nat.mod_eq_of_lt (by omega)] at hc
        have hc2 := c_int (mt := false) (st := st) (k := .u8) (n := ((m : Nat) : Int)) u5 u3
        rw [show IntKind.i64.wrap ((m : Nat) : Int) = ((m : Nat) : Int) by simp [IntKind.wrap, IntKind.bits, IntKind.signed]; omega] at hc2
        have ez : IntKind.i64.wrap ((32 : Int) + ((m : Nat) : Int)) = ((m + 32 : Nat) : Int) := by simp [IntKind.wrap, IntKind.bits, IntKind.signed]; omega
        refine ⟨m + 32, ?_, ?_, by omega⟩
        · simp only [code, Try.f30, Option.getD_some, aexec, aops, aop, Region.wanted, ayielded, aexecOp, aeval, aput, aseq, ablock, ahint, absOf, flat, nilCheckA, ANext.ofP, evals, evalPs, evalO, aresults, aresults1, aresult, aend, List.getElem?_set, List.length_set, Option.map_some, Option.bind_some, if_true, if_false, ↓reduceIte, Nat.reduceLT, Nat.reduceEqDiff, reduceCtorEq, Bool.false_eq_true, false_and, and_false, and_true, true_and, Nat.reduceAdd, Nat.reduceLeDiff, callA, List.getElem?_toArray, List.getElem?_cons_succ, List.getElem?_cons_zero, sb1, sb2, sb3, sb4, h0, hl, hh, b_geq, d0, d1, d2, b_shr _ _ _ _ _ _ _ _ (show (0 : Int) ≤ 32 by decide), b_shr _ _ _ _ _ _ _ _ (show (0 : Int) ≤ 16 by decide), b_shr _ _ _ _ _ _ _ _ (show (0 : Int) ≤ 8 by decide), shr_32, shr_16, shr_8', b_add, hc, hm, hc2, ez]
        · have q0 := hb
          have q1 := Bits.up 32 q0 (by omega)
          have eq : m + 32 = m + 32 := by omega
          rw [eq]; exact q1
  · have d0 : decide ((((x) : Nat) : Int) ≥ 4294967296) = false := by simp only [ge_iff_le, decide_eq_true_eq, decide_eq_false_iff_not]; omega
    by_cases g1 : 65536 ≤ x
    · have d1 : decide ((((x) : Nat) : Int) ≥ 65536) = true := by simp only [ge_iff_le, decide_eq_true_eq, decide_eq_false_iff_not]; omega
      by_cases g2 : 256 ≤ (x) / 2 ^ 16
      · have d2 : decide (((((x) / 2 ^ 16) : Nat) : Int) ≥ 256) = true := by simp only [ge_iff_le, decide_eq_true_eq, decide_eq_false_iff_not]; omega
        obtain ⟨m, hm, hb, hm8⟩ := tab_at (y := ((x) / 2 ^ 16) / 2 ^ 8) (by omega)
        simp only [lenTab, code, Try.f30, Option.getD_some, Code.fst, Code.snd, Code.ops, List.getElem?_toArray, List.getElem?_cons_succ, List.getElem?_cons_zero] at hm
        have hc := c_int (mt := false) (st := st) (k := .u64) (n := (((((x) / 2 ^ 16) / 2 ^ 8) : Nat) : Int)) u22 u5
        rw [wrap_u8, Nat.mod_eq_of_lt (by omega)] at hc
        have hc2 := c_int (mt := false) (st := st) (k := .u8) (n := ((m : Nat) : Int)) u5 u3
        rw [show IntKind.i64.wrap ((m : Nat) : Int) = ((m : Nat) : Int) by simp [IntKind.wrap, IntKind.bits, IntKind.signed]; omega] at hc2
        have e0 : IntKind.i64.wrap (0 + 16) = 16 := rfl
        have e1 : IntKind.i64.wrap (16 + 8) = 24 := rfl
        have ez : IntKind.i64.wrap ((24 : Int) + ((m : Nat) : Int)) = ((m + 24 : Nat) : Int) := by simp [IntKind.wrap, IntKind.bits, IntKind.signed]; omega
        refine ⟨m + 24, ?_, ?_, by omega⟩
        · simp only [code, Try.f30, Option.getD_some, aexec, aops, aop, Region.wanted, ayielded, aexecOp, aeval, aput, aseq, ablock, ahint, absOf, flat, nilCheckA, ANext.ofP, evals, evalPs, evalO, aresults, aresults1, aresult, aend, List.getElem?_set, List.length_set, Option.map_some, Option.bind_some, if_true, if_false, ↓reduceIte, Nat.reduceLT, Nat.reduceEqDiff, reduceCtorEq, Bool.false_eq_true, false_and, and_false, and_true, true_and, Nat.reduceAdd, Nat.reduceLeDiff, callA, List.getElem?_toArray, List.getElem?_cons_succ, List.getElem?_cons_zero, sb1, sb2, sb3, sb4, h0, hl, hh, b_geq, d0, d1, d2, b_shr _ _ _ _ _ _ _ _ (show (0 : Int) ≤ 32 by decide), b_shr _ _ _ _ _ _ _ _ (show (0 : Int) ≤ 16 by decide), b_shr _ _ _ _ _ _ _ _ (show (0 : Int) ≤ 8 by decide), shr_32, shr_16, shr_8', b_add, hc, hm, hc2, e0, e1, ez]
        · have q0 := hb
          have q1 := Bits.up 8 q0 (by omega)
          have q2 := Bits.up 16 q1 (by omega)
          have eq : m + 24 = m + 8 + 16 := by omega
          rw [eq]; exact q2
      · have d2 : decide (((((x) / 2 ^ 16) : Nat) : Int) ≥ 256) = false := by simp only [ge_iff_le, decide_eq_true_eq, decide_eq_false_iff_not]; omega
        obtain ⟨m, hm, hb, hm8⟩ := tab_at (y := (x) / 2 ^ 16) (by omega)
        simp only [lenTab, code, Try.f30, Option.getD_some, Code.fst, Code.snd, Code.ops, List.getElem?_toArray, List.getElem?_cons_succ, List.getElem?_cons_zero] at hm
        have hc := c_int (mt := false) (st := st) (k := .u64) (n := ((((x) / 2 ^ 16) : Nat) : Int)) u22 u5
        rw [wrap_u8, Nat.mod_eq_of_lt (by omega)] at hc
        have hc2 := c_int (mt := false) (st := st) (k := .u8) (n := ((m : Nat) : Int)) u5 u3
        rw [show IntKind.i64.wrap ((m : Nat) : Int) = ((m : Nat) : Int) by simp [IntKind.wrap, IntKind.bits, IntKind.signed]; omega] at hc2
        have e0 : IntKind.i64.wrap (0 + 16) = 16 := rfl
        have ez : IntKind.i64.wrap ((16 : Int) + ((m : Nat) : Int)) = ((m + 16 : Nat) : Int) := by simp [IntKind.wrap, IntKind.bits, IntKind.signed]; omega
        refine ⟨m + 16, ?_, ?_, by omega⟩
        · simp only [code, Try.f30, Option.getD_some, aexec, aops, aop, Region.wanted, ayielded, aexecOp, aeval, aput, aseq, ablock, ahint, absOf, flat, nilCheckA, ANext.ofP, evals, evalPs, evalO, aresults, aresults1, aresult, aend, List.getElem?_set, List.length_set, Option.map_some, Option.bind_some, if_true, if_false, ↓reduceIte, Nat.reduceLT, Nat.reduceEqDiff, reduceCtorEq, Bool.false_eq_true, false_and, and_false, and_true, true_and, Nat.reduceAdd, Nat.reduceLeDiff, callA, List.getElem?_toArray, List.getElem?_cons_succ, List.getElem?_cons_zero, sb1, sb2, sb3, sb4, h0, hl, hh, b_geq, d0, d1, d2, b_shr _ _ _ _ _ _ _ _ (show (0 : Int) ≤ 32 by decide), b_shr _ _ _ _ _ _ _ _ (show (0 : Int) ≤ 16 by decide), b_shr _ _ _ _ _ _ _ _ (show (0 : Int) ≤ 8 by decide), shr_32, shr_16, shr_8', b_add, hc, hm, hc2, e0, ez]
        · have q0 := hb
          have q1 := Bits.up 16 q0 (by omega)
          have eq : m + 16 = m + 16 := by omega
          rw [eq]; exact q1
    · have d1 : decide ((((x) : Nat) : Int) ≥ 65536) = false := by simp only [ge_iff_le, decide_eq_true_eq, decide_eq_false_iff_not]; omega
      by_cases g2 : 256 ≤ x
      · have d2 : decide ((((x) : Nat) : Int) ≥ 256) = true := by simp only [ge_iff_le, decide_eq_true_eq, decide_eq_false_iff_not]; omega
        obtain ⟨m, hm, hb, hm8⟩ := tab_at (y := (x) / 2 ^ 8) (by omega)
        simp only [lenTab, code, Try.f30, Option.getD_some, Code.fst, Code.snd, Code.ops, List.getElem?_toArray, List.getElem?_cons_succ, List.getElem?_cons_zero] at hm
        have hc := c_int (mt := false) (st := st) (k := .u64) (n := ((((x) / 2 ^ 8) : Nat) : Int)) u22 u5
        rw [wrap_u8, Nat.mod_eq_of_lt (by omega)] at hc
        have hc2 := c_int (mt := false) (st := st) (k := .u8) (n := ((m : Nat) : Int)) u5 u3
        rw [show IntKind.i64.wrap ((m : Nat) : Int) = ((m : Nat) : Int) by simp [IntKind.wrap, IntKind.bits, IntKind.signed]; omega] at hc2
        have e0 : IntKind.i64.wrap (0 + 8) = 8 := rfl
        have ez : IntKind.i64.wrap ((8 : Int) + ((m : Nat) : Int)) = ((m + 8 : Nat) : Int) := by simp [IntKind.wrap, IntKind.bits, IntKind.signed]; omega
        refine ⟨m + 8, ?_, ?_, by omega⟩
        · simp only [code, Try.f30, Option.getD_some, aexec, aops, aop, Region.wanted, ayielded, aexecOp, aeval, aput, aseq, ablock, ahint, absOf, flat, nilCheckA, ANext.ofP, evals, evalPs, evalO, aresults, aresults1, aresult, aend, List.getElem?_set, List.length_set, Option.map_some, Option.bind_some, if_true, if_false, ↓reduceIte, Nat.reduceLT, Nat.reduceEqDiff, reduceCtorEq, Bool.false_eq_true, false_and, and_false, and_true, true_and, Nat.reduceAdd, Nat.reduceLeDiff, callA, List.getElem?_toArray, List.getElem?_cons_succ, List.getElem?_cons_zero, sb1, sb2, sb3, sb4, h0, hl, hh, b_geq, d0, d1, d2, b_shr _ _ _ _ _ _ _ _ (show (0 : Int) ≤ 32 by decide), b_shr _ _ _ _ _ _ _ _ (show (0 : Int) ≤ 16 by decide), b_shr _ _ _ _ _ _ _ _ (show (0 : Int) ≤ 8 by decide), shr_32, shr_16, shr_8', b_add, hc, hm, hc2, e0, ez]
        · have q0 := hb
          have q1 := Bits.up 8 q0 (by omega)
          have eq : m + 8 = m + 8 := by omega
          rw [eq]; exact q1
      · have d2 : decide ((((x) : Nat) : Int) ≥ 256) = false := by simp only [ge_iff_le, decide_eq_true_eq, decide_eq_false_iff_not]; omega
        obtain ⟨m, hm, hb, hm8⟩ := tab_at (y := x) (by omega)
        simp only [lenTab, code, Try.f30, Option.getD_some, Code.fst, Code.snd, Code.ops, List.getElem?_toArray, List.getElem?_cons_succ, List.getElem?_cons_zero] at hm
        have hc := c_int (mt := false) (st := st) (k := .u64) (n := (((x) : Nat) : Int)) u22 u5
        rw [wrap_u8, Nat.mod_eq_of_lt (by omega)] at hc
        have hc2 := c_int (mt := false) (st := st) (k := .u8) (n := ((m : Nat) : Int)) u5 u3
        rw [show IntKind.i64.wrap ((m : Nat) : Int) = ((m : Nat) : Int) by simp [IntKind.wrap, IntKind.bits, IntKind.signed]; omega] at hc2
        have ez : IntKind.i64.wrap ((0 : Int) + ((m : Nat) : Int)) = ((m + 0 : Nat) : Int) := by simp [IntKind.wrap, IntKind.bits, IntKind.signed]; omega
        refine ⟨m + 0, ?_, ?_, by omega⟩
        · simp only [code, Try.f30, Option.getD_some, aexec, aops, aop, Region.wanted, ayielded, aexecOp, aeval, aput, aseq, ablock, ahint, absOf, flat, nilCheckA, ANext.ofP, evals, evalPs, evalO, aresults, aresults1, aresult, aend, List.getElem?_set, List.length_set, Option.map_some, Option.bind_some, if_true, if_false, ↓reduceIte, Nat.reduceLT, Nat.reduceEqDiff, reduceCtorEq, Bool.false_eq_true, false_and, and_false, and_true, true_and, Nat.reduceAdd, Nat.reduceLeDiff, callA, List.getElem?_toArray, List.getElem?_cons_succ, List.getElem?_cons_zero, sb1, sb2, sb3, sb4, h0, hl, hh, b_geq, d0, d1, d2, b_shr _ _ _ _ _ _ _ _ (show (0 : Int) ≤ 32 by decide), b_shr _ _ _ _ _ _ _ _ (show (0 : Int) ≤ 16 by decide), b_shr _ _ _ _ _ _ _ _ (show (0 : Int) ≤ 8 by decide), shr_32, shr_16, shr_8', b_add, hc, hm, hc2, ez]
        · have q0 := hb
          have eq : m + 0 = m := by omega
          rw [eq]; exact q0

theorem len64_run {x : Nat} (hx : x < 2 ^ 64) (st : ASt) : ∃ m : Nat, RetN E 1 30 [.lit (.int .u64 x)] st (.lit (.int .i64 (m : Nat))) st ∧ Bits x m ∧ m ≤ 64 := by
  obtain ⟨m, e, h⟩ := len64_code (run E 0) (drawB E 30) 0 hx (st := st) (ts := [.lit (.int .u64 x)] ++ List.replicate 24 .undef) rfl rfl
  exact ⟨m, RetN.of (n := 1) (by rw [run_code (fn := Try.f30) rfl rfl]; exact e), h⟩

end Go.Proofs.YtjpehemkgikkdaaV
