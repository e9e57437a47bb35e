/- WireApart, walked in the second reading. No condition but Awake's. -/
import Derived.Test.YtjpehemkgikkdaaVB
import Derived.Test.YtjpehemkgikkdaaAD
namespace Go.Proofs.YtjpehemkgikkdaaV
open Go Go.RowKit Go.Proofs.YtjpehemkgikkdaaA
set_option linter.unusedVariables false
set_option linter.unusedSimpArgs false
set_option maxRecDepth 100000

theorem cf15 (a : List AVal) (st : ASt) : callFuncA E.P 15 a st = some (.enter 15 a st) := rfl
theorem u4 : E.P.underlying 4 = some .bool := rfl

theorem apart_plain {a b c d : Nat} (ha : a < 2 ^ 64) (hb : b < 2 ^ 64) (hc : c < 2 ^ 64) (hd : d < 2 ^ 64) : ([] ++ enc a ++ enc b == [] ++ enc c ++ enc d) = (decide (a = c) && decide (b = d)) := by
  simp only [List.nil_append]
  rw [Bool.eq_iff_iff]
  simp only [beq_iff_eq, Bool.and_eq_true, decide_eq_true_eq]
  constructor
  · intro h
    obtain ⟨e1, e2⟩ := enc_inj ha hc h
    have := enc_inj (r := []) (r' := []) hb hd (by simpa using e2)
    exact ⟨e1, this.1⟩
  · rintro ⟨rfl, rfl⟩; rfl

theorem apart_run {s0 : ASt} (hA : AwakeIs s0) {a b c d : Nat} (ha : a < 2 ^ 64) (hb : b < 2 ^ 64) (hc : c < 2 ^ 64) (hd : d < 2 ^ 64) :
    ∃ n st', run E n 3 [.lit (.int .u64 a), .lit (.int .u64 b), .lit (.int .u64 c), .lit (.int .u64 d)] st0 = some (.returned (.lit (.bool true)), st') := by
  obtain ⟨d0, hA⟩ := hA
  obtain ⟨s3, k3, n1, w1⟩ := num_run (wat_gr (wat_init s0) (Gr.new _ (.cells [.nilSlice]))) ha (by simp)
  obtain ⟨s4, k4, n2, w2⟩ := num_run w1.at' hb (by have := enc_len a; simp; omega)
  have w12 := w1.trans w2
  have q0 : WAt s4 (s0.new (.cells [.nilSlice])).ctr [] none := wat_fr (wat_init (s0.new (.cells [.nilSlice]))) w12.fr (by simp [ASt.new]) (by simp) (by simp)
  obtain ⟨s5, k5, n3, w3⟩ := num_run q0 hc (by simp)
  obtain ⟨s6, k6, n4, w4⟩ := num_run w3.at' hd (by have := enc_len c; simp; omega)
  have w34 := w3.trans w4
  have p6 : WAt s6 s0.ctr _ k4 := wat_fr w12.at' w34.fr (by simp [ASt.new]) (by simp) (by
    intro j hj
    have := w12.own j hj
    simp only [ASt.new, reduceCtorEq, or_false] at this
    simp [ASt.new]; omega)
  obtain ⟨v1, s7, n5, b1, g1⟩ := bytes_run p6 (by have := enc_len a; have := enc_len b; simp; omega)
  obtain ⟨v2, s8, n6, b2, g2⟩ := bytes_run (wat_gr w34.at' g1) (by have := enc_len c; have := enc_len d; simp; omega)
  have n7 := eq_run s8 (b1.gr g2) b2 (by have := enc_len a; have := enc_len b; simp; omega)
  refine ⟨max d0 100 + 1, s8, ?_⟩
  have hN : d0 ≤ max d0 100 := Nat.le_max_left _ _
  have hN2 : 100 ≤ max d0 100 := Nat.le_max_right _ _
  generalize max d0 100 = N at hN hN2
  have c0 := hA N hN
  have c1 := n1 N (by omega)
  have c2 := n2 N (by omega)
  have c3 := n3 N (by omega)
  have c4 := n4 N (by omega)
  have c5 := n5 N (by omega)
  have c6 := n6 N (by omega)
  have c7 := n7 N (by have := enc_len a; have := enc_len b; simp; omega)
  rw [apart_plain ha hb hc hd] at c7
  rw [run_code (fn := Try.f3) rfl rfl]
  have hh : ∀ t, E.hint 3 t = false := fun _ => rfl
  have hi : ∀ x y : Nat, (((x : Nat) : Int) == ((y : Nat) : Int)) = decide (x = y) := by
    intro x y
    by_cases h : x = y
    · simp [h]
    · have h2 : (x : Int) ≠ (y : Int) := by omega
      rw [beq_eq_false_iff_ne.2 h2]; simp [h]
  obtain ⟨ts, et, h0, h1, h2, h3, hl⟩ : ∃ ts, ([AVal.lit (.int .u64 a), .lit (.int .u64 b), .lit (.int .u64 c), .lit (.int .u64 d)] ++ List.replicate (Try.f3.ntmps - [AVal.lit (.int .u64 a), .lit (.int .u64 b), .lit (.int .u64 c), .lit (.int .u64 d)].length) .undef) = ts ∧ ts[0]? = some (.lit (.int .u64 a)) ∧ ts[1]? = some (.lit (.int .u64 b)) ∧ ts[2]? = some (.lit (.int .u64 c)) ∧ ts[3]? = some (.lit (.int .u64 d)) ∧ ts.length = 33 := ⟨_, rfl, rfl, rfl, rfl, rfl, rfl⟩
  rw [et]
  have hnot : ∀ b, pureV E.P (Op.unary .not (.bool b)) = some (.lit (.bool (!b))) := fun _ => rfl
  cases e1 : decide (a = c) <;> cases e2 : decide (b = d) <;> rw [e1, e2] at c7 <;>
  simp only [code, Try.f3, Option.getD_some, Code.fst, Code.snd, Code.inn, aexec, aops, aop, Region.wanted, ayielded, aexecOp, aeval, aput, aseq, ablock, ahint, absOf, flat, nilCheckA, ANext.ofP, evals, evalPs, evalO, aresults, aresults1, aresult, aend, List.getElem?_set, List.length_set, Option.map_some, Option.bind_some, if_true, if_false, ↓reduceIte, Nat.reduceLT, Nat.reduceEqDiff, reduceCtorEq, Bool.false_eq_true, false_and, and_false, and_true, true_and, Nat.reduceAdd, Nat.reduceLeDiff, callA, List.getElem?_toArray, List.getElem?_cons_succ, List.getElem?_cons_zero, sb1, sb2, sb3, sb4, hh, cf15, cf16, cf17, cf18, h0, h1, h2, h3, hl, c0, YtjpehemkgikkdaaA.valOf, hnot, Bool.not_true, alloc_w, c1, c2, c3, c4, c5, c6, c7, b_eql, hi, e1, e2, Bool.and_true, Bool.and_false, Bool.false_and, b_eqb u4, beq_self_eq_true]
  all_goals rfl

theorem mixed : E.P.follows .mixedOrders = true := by kernel_rfl

theorem apart_calls {a b c d : Nat} (ha : a < 2 ^ 64) (hb : b < 2 ^ 64) (hc : c < 2 ^ 64) (hd : d < 2 ^ 64) (W : World) :
    Calls Try.prog 3 #[.int .u64 a, .int .u64 b, .int .u64 c, .int .u64 d] W (fun e w' => e = .returned (.bool true) ∧ Below W.heap.size W w') := by
  obtain ⟨s0, hA⟩ := awake
  obtain ⟨n, st', h⟩ := apart_run hA ha hb hc hd
  refine law_of_run mixed (fun _ => rfl) h (W := W) ⟨rfl, fun j x u hj hu => ?_⟩
  match j with
  | 0 => cases hj; cases hu; exact Rep.lit rfl
  | 1 => cases hj; cases hu; exact Rep.lit rfl
  | 2 => cases hj; cases hu; exact Rep.lit rfl
  | 3 => cases hj; cases hu; exact Rep.lit rfl
  | j + 4 => simp at hj

end Go.Proofs.YtjpehemkgikkdaaV

/- bits.Len64's contract. No condition. -/
namespace Go.Proofs.YtjpehemkgikkdaaV
open Go Go.RowKit Go.Proofs.YtjpehemkgikkdaaA
set_option linter.unusedVariables false
set_option linter.unusedSimpArgs false
set_option maxRecDepth 100000

/-- so many bits -/
def Bits (x m : Nat) : Prop := (x = 0 ∧ m = 0) ∨ (1 ≤ m ∧ 2 ^ (m - 1) ≤ x ∧ x < 2 ^ m)

theorem Bits.up {x m : Nat} (k : Nat) (h : Bits (x / 2 ^ k) m) (hx : 2 ^ k ≤ x) : Bits x (m + k) := by
  have hpos : 0 < 2 ^ k := Nat.pow_pos (by decide)
  rcases h with ⟨h0, _⟩ | ⟨h1, h2, h3⟩
  · have := Nat.div_pos hx hpos; omega
  · refine .inr ⟨by omega, ?_, ?_⟩
    · rw [Nat.le_div_iff_mul_le hpos] at h2
      have e : m + k - 1 = (m - 1) + k := by omega
      rw [e, Nat.pow_add]; exact h2
    · rw [Nat.div_lt_iff_lt_mul hpos] at h3
      rw [Nat.pow_add]; exact h3

noncomputable def lenTab : Value := match (code Try.f30).snd.snd.snd.snd.fst.ops[3]? with
  | some o => match o.op with
    | .index _ (.const v) _ => v
    | _ => .nilFunc
  | none => .nilFunc

def tabOk (P : Program) (v : Value) (y : Nat) : Bool := match pureV P (Instr.index 9 v (.int .u8 y)) with
  | some (.lit (.int .u8 n)) => decide ((y = 0 ∧ n = 0) ∨ (1 ≤ n ∧ 2 ^ (n.toNat - 1) ≤ y ∧ y < 2 ^ n.toNat))
  | _ => false

theorem tab_all : ∀ y : Fin 256, tabOk E.P lenTab y.val = true := by decide +kernel

theorem tab_at {y : Nat} (h : y < 256) : ∃ n : Nat, pureV E.P (Instr.index 9 lenTab (.int .u8 y)) = some (.lit (.int .u8 (n : Nat))) ∧ Bits y n ∧ n ≤ 8 := by
  have := tab_all ⟨y, h⟩
  unfold tabOk at this
  split at this
  · rename_i n e
    have hd := of_decide_eq_true this
    simp only at e hd
    obtain ⟨m, rfl⟩ : ∃ m : Nat, n = (m : Int) := ⟨n.toNat, by omega⟩
    refine ⟨m, e, ?_, ?_⟩
    · rcases hd with ⟨h1, h2⟩ | ⟨h1, h2, h3⟩
      · exact .inl ⟨h1, by omega⟩
      · exact .inr ⟨by omega, by simpa using h2, by simpa using h3⟩
    · rcases hd with ⟨h1, h2⟩ | ⟨h1, h2, h3⟩
      · omega
      · by_cases hm : m ≤ 8
        · exact hm
        · have h5 : 2 ^ 8 ≤ 2 ^ (m - 1) := Nat.pow_le_pow_right (by decide) (by omega)
          simp only [Int.toNat_natCast] at h2
          omega
  · cases this

theorem shr_32 (x : Nat) : (x : Int).fdiv (2 ^ min (32 : Int).toNat (IntKind.bits .u64)) = ((x / 2 ^ 32 : Nat) : Int) := by
  rw [Int.fdiv_eq_ediv_of_nonneg _ (by decide)]; rfl
theorem shr_16 (x : Nat) : (x : Int).fdiv (2 ^ min (16 : Int).toNat (IntKind.bits .u64)) = ((x / 2 ^ 16 : Nat) : Int) := by
  rw [Int.fdiv_eq_ediv_of_nonneg _ (by decide)]; rfl
theorem shr_8' (x : Nat) : (x : Int).fdiv (2 ^ min (8 : Int).toNat (IntKind.bits .u64)) = ((x / 2 ^ 8 : Nat) : Int) := by
  rw [Int.fdiv_eq_ediv_of_nonneg _ (by decide)]; rfl

theorem len64_code (call : ACall) (dr : Array Oper → Bool) (n : Nat) {x : Nat} (hx : x < 2 ^ 64) {st : ASt} {ts : List AVal} (h0 : ts[0]? = some (.lit (.int .u64 x))) (hl : ts.length = 25) :
    ∃ m : Nat, aend E Try.f30 (aexec E 30 call dr n (code Try.f30) ts st) = some (.returned (.lit (.int .i64 (m : Nat))), st) ∧ Bits x m ∧ m ≤ 64 := by
  have hh : ∀ t, E.hint 30 t = false := fun _ => rfl
  by_cases g0 : 4294967296 ≤ x
  · have d0 : decide ((((x) : Nat) : Int) ≥ 4294967296) = true := by simp only [ge_iff_le, decide_eq_true_eq, decide_eq_false_iff_not]; omega
    by_cases g1 : 65536 ≤ (x) / 2 ^ 32
    · have d1 : decide (((((x) / 2 ^ 32) : Nat) : Int) ≥ 65536) = true := by simp only [ge_iff_le, decide_eq_true_eq, decide_eq_false_iff_not]; omega
      by_cases g2 : 256 ≤ ((x) / 2 ^ 32) / 2 ^ 16
      · have d2 : decide ((((((x) / 2 ^ 32) / 2 ^ 16) : Nat) : Int) ≥ 256) = true := by simp only [ge_iff_le, decide_eq_true_eq, decide_eq_false_iff_not]; omega
        obtain ⟨m, hm, hb, hm8⟩ := tab_at (y := (((x) / 2 ^ 32) / 2 ^ 16) / 2 ^ 8) (by omega)
        simp only [lenTab, code, Try.f30, Option.getD_some, Code.fst, Code.snd, Code.ops, List.getElem?_toArray, List.getElem?_cons_succ, List.getElem?_cons_zero] at hm
        have hc := c_int (mt := false) (st := st) (k := .u64) (n := ((((((x) / 2 ^ 32) / 2 ^ 16) / 2 ^ 8) : Nat) : Int)) u22 u5
        rw [wrap_u8, Nat.mod_eq_of_lt (by omega)] at hc
        have hc2 := c_int (mt := false) (st := st) (k := .u8) (n := ((m : Nat) : Int)) u5 u3
        rw [show IntKind.i64.wrap ((m : Nat) : Int) = ((m : Nat) : Int) by simp [IntKind.wrap, IntKind.bits, IntKind.signed]; omega] at hc2
        have e0 : IntKind.i64.wrap (32 + 16) = 48 := rfl
        have e1 : IntKind.i64.wrap (48 + 8) = 56 := rfl
        have ez : IntKind.i64.wrap ((56 : Int) + ((m : Nat) : Int)) = ((m + 56 : Nat) : Int) := by simp [IntKind.wrap, IntKind.bits, IntKind.signed]; omega
        refine ⟨m + 56, ?_, ?_, by omega⟩
        · simp only [code, Try.f30, Option.getD_some, aexec, aops, aop, Region.wanted, ayielded, aexecOp, aeval, aput, aseq, ablock, ahint, absOf, flat, nilCheckA, ANext.ofP, evals, evalPs, evalO, aresults, aresults1, aresult, aend, List.getElem?_set, List.length_set, Option.map_some, Option.bind_some, if_true, if_false, ↓reduceIte, Nat.reduceLT, Nat.reduceEqDiff, reduceCtorEq, Bool.false_eq_true, false_and, and_false, and_true, true_and, Nat.reduceAdd, Nat.reduceLeDiff, callA, List.getElem?_toArray, List.getElem?_cons_succ, List.getElem?_cons_zero, sb1, sb2, sb3, sb4, h0, hl, hh, b_geq, d0, d1, d2, b_shr _ _ _ _ _ _ _ _ (show (0 : Int) ≤ 32 by decide), b_shr _ _ _ _ _ _ _ _ (show (0 : Int) ≤ 16 by decide), b_shr _ _ _ _ _ _ _ _ (show (0 : Int) ≤ 8 by decide), shr_32, shr_16, shr_8', b_add, hc, hm, hc2, e0, e1, ez]
        · have q0 := hb
          have q1 := Bits.up 8 q0 (by omega)
          have q2 := Bits.up 16 q1 (by omega)
          have q3 := Bits.up 32 q2 (by omega)
          have eq : m + 56 = m + 8 + 16 + 32 := by omega
          rw [eq]; exact q3
      · have d2 : decide ((((((x) / 2 ^ 32) / 2 ^ 16) : Nat) : Int) ≥ 256) = false := by simp only [ge_iff_le, decide_eq_true_eq, decide_eq_false_iff_not]; omega
        obtain ⟨m, hm, hb, hm8⟩ := tab_at (y := ((x) / 2 ^ 32) / 2 ^ 16) (by omega)
        simp only [lenTab, code, Try.f30, Option.getD_some, Code.fst, Code.snd, Code.ops, List.getElem?_toArray, List.getElem?_cons_succ, List.getElem?_cons_zero] at hm
        have hc := c_int (mt := false) (st := st) (k := .u64) (n := (((((x) / 2 ^ 32) / 2 ^ 16) : Nat) : Int)) u22 u5
        rw [wrap_u8, Nat.mod_eq_of_lt (by omega)] at hc
        have hc2 := c_int (mt := false) (st := st) (k := .u8) (n := ((m : Nat) : Int)) u5 u3
        rw [show IntKind.i64.wrap ((m : Nat) : Int) = ((m : Nat) : Int) by simp [IntKind.wrap, IntKind.bits, IntKind.signed]; omega] at hc2
        have e0 : IntKind.i64.wrap (32 + 16) = 48 := rfl
        have ez : IntKind.i64.wrap ((48 : Int) + ((m : Nat) : Int)) = ((m + 48 : Nat) : Int) := by simp [IntKind.wrap, IntKind.bits, IntKind.signed]; omega
        refine ⟨m + 48, ?_, ?_, by omega⟩
        · simp only [code, Try.f30, Option.getD_some, aexec, aops, aop, Region.wanted, ayielded, aexecOp, aeval, aput, aseq, ablock, ahint, absOf, flat, nilCheckA, ANext.ofP, evals, evalPs, evalO, aresults, aresults1, aresult, aend, List.getElem?_set, List.length_set, Option.map_some, Option.bind_some, if_true, if_false, ↓reduceIte, Nat.reduceLT, Nat.reduceEqDiff, reduceCtorEq, Bool.false_eq_true, false_and, and_false, and_true, true_and, Nat.reduceAdd, Nat.reduceLeDiff, callA, List.getElem?_toArray, List.getElem?_cons_succ, List.getElem?_cons_zero, sb1, sb2, sb3, sb4, h0, hl, hh, b_geq, d0, d1, d2, b_shr _ _ _ _ _ _ _ _ (show (0 : Int) ≤ 32 by decide), b_shr _ _ _ _ _ _ _ _ (show (0 : Int) ≤ 16 by decide), b_shr _ _ _ _ _ _ _ _ (show (0 : Int) ≤ 8 by decide), shr_32, shr_16, shr_8', b_add, hc, hm, hc2, e0, ez]
        · have q0 := hb
          have q1 := Bits.up 16 q0 (by omega)
          have q2 := Bits.up 32 q1 (by omega)
          have eq : m + 48 = m + 16 + 32 := by omega
          rw [eq]; exact q2
    · have d1 : decide (((((x) / 2 ^ 32) : Nat) : Int) ≥ 65536) = false := by simp only [ge_iff_le, decide_eq_true_eq, decide_eq_false_iff_not]; omega
      by_cases g2 : 256 ≤ (x) / 2 ^ 32
      · have d2 : decide (((((x) / 2 ^ 32) : Nat) : Int) ≥ 256) = true := by simp only [ge_iff_le, decide_eq_true_eq, decide_eq_false_iff_not]; omega
        obtain ⟨m, hm, hb, hm8⟩ := tab_at (y := ((x) / 2 ^ 32) / 2 ^ 8) (by omega)
        simp only [lenTab, code, Try.f30, Option.getD_some, Code.fst, Code.snd, Code.ops, List.getElem?_toArray, List.getElem?_cons_succ, List.getElem?_cons_zero] at hm
        have hc := c_int (mt := false) (st := st) (k := .u64) (n := (((((x) / 2 ^ 32) / 2 ^ 8) : Nat) : Int)) u22 u5
        rw [wrap_u8, Nat.mod_eq_of_lt (by omega)] at hc
        have hc2 := c_int (mt := false) (st := st) (k := .u8) (n := ((m : Nat) : Int)) u5 u3
        rw [show IntKind.i64.wrap ((m : Nat) : Int) = ((m : Nat) : Int) by simp [IntKind.wrap, IntKind.bits, IntKind.signed]; omega] at hc2
        have e0 : IntKind.i64.wrap (32 + 8) = 40 := rfl
        have ez : IntKind.i64.wrap ((40 : Int) + ((m : Nat) : Int)) = ((m + 40 : Nat) : Int) := by simp [IntKind.wrap, IntKind.bits, IntKind.signed]; omega
        refine ⟨m + 40, ?_, ?_, by omega⟩
        · simp only [code, Try.f30, Option.getD_some, aexec, aops, aop, Region.wanted, ayielded, aexecOp, aeval, aput, aseq, ablock, ahint, absOf, flat, nilCheckA, ANext.ofP, evals, evalPs, evalO, aresults, aresults1, aresult, aend, List.getElem?_set, List.length_set, Option.map_some, Option.bind_some, if_true, if_false, ↓reduceIte, Nat.reduceLT, Nat.reduceEqDiff, reduceCtorEq, Bool.false_eq_true, false_and, and_false, and_true, true_and, Nat.reduceAdd, Nat.reduceLeDiff, callA, List.getElem?_toArray, List.getElem?_cons_succ, List.getElem?_cons_zero, sb1, sb2, sb3, sb4, h0, hl, hh, b_geq, d0, d1, d2, b_shr _ _ _ _ _ _ _ _ (show (0 : Int) ≤ 32 by decide), b_shr _ _ _ _ _ _ _ _ (show (0 : Int) ≤ 16 by decide), b_shr _ _ _ _ _ _ _ _ (show (0 : Int) ≤ 8 by decide), shr_32, shr_16, shr_8', b_add, hc, hm, hc2, e0, ez]
        · have q0 := hb
          have q1 := Bits.up 8 q0 (by omega)
          have q2 := Bits.up 32 q1 (by omega)
          have eq : m + 40 = m + 8 + 32 := by omega
          rw [eq]; exact q2
      · have d2 : decide (((((x) / 2 ^ 32) : Nat) : Int) ≥ 256) = false := by simp only [ge_iff_le, decide_eq_true_eq, decide_eq_false_iff_not]; omega
        obtain ⟨m, hm, hb, hm8⟩ := tab_at (y := (x) / 2 ^ 32) (by omega)
        simp only [lenTab, code, Try.f30, Option.getD_some, Code.fst, Code.snd, Code.ops, List.getElem?_toArray, List.getElem?_cons_succ, List.getElem?_cons_zero] at hm
        have hc := c_int (mt := false) (st := st) (k := .u64) (n := ((((x) / 2 ^ 32) : Nat) : Int)) u22 u5
        rw [wrap_u8, Nat.mod_eq_of_lt (by omega)] at hc
        have hc2 := c_int (mt := false) (st := st) (k := .u8) (n := ((m : Nat) : Int)) u5 u3
        rw [show IntKind.i64.wrap ((m : Nat) : Int) = ((m : Nat) : Int) by simp [IntKind.wrap, IntKind.bits, IntKind.signed]; omega] at hc2
        have ez : IntKind.i64.wrap ((32 : Int) + ((m : Nat) : Int)) = ((m + 32 : Nat) : Int) := by simp [IntKind.wrap, IntKind.bits, IntKind.signed]; omega
        refine ⟨m + 32, ?_, ?_, by omega⟩
        · simp only [code, Try.f30, Option.getD_some, aexec, aops, aop, Region.wanted, ayielded, aexecOp, aeval, aput, aseq, ablock, ahint, absOf, flat, nilCheckA, ANext.ofP, evals, evalPs, evalO, aresults, aresults1, aresult, aend, List.getElem?_set, List.length_set, Option.map_some, Option.bind_some, if_true, if_false, ↓reduceIte, Nat.reduceLT, Nat.reduceEqDiff, reduceCtorEq, Bool.false_eq_true, false_and, and_false, and_true, true_and, Nat.reduceAdd, Nat.reduceLeDiff, callA, List.getElem?_toArray, List.getElem?_cons_succ, List.getElem?_cons_zero, sb1, sb2, sb3, sb4, h0, hl, hh, b_geq, d0, d1, d2, b_shr _ _ _ _ _ _ _ _ (show (0 : Int) ≤ 32 by decide), b_shr _ _ _ _ _ _ _ _ (show (0 : Int) ≤ 16 by decide), b_shr _ _ _ _ _ _ _ _ (show (0 : Int) ≤ 8 by decide), shr_32, shr_16, shr_8', b_add, hc, hm, hc2, ez]
        · have q0 := hb
          have q1 := Bits.up 32 q0 (by omega)
          have eq : m + 32 = m + 32 := by omega
          rw [eq]; exact q1
  · have d0 : decide ((((x) : Nat) : Int) ≥ 4294967296) = false := by simp only [ge_iff_le, decide_eq_true_eq, decide_eq_false_iff_not]; omega
    by_cases g1 : 65536 ≤ x
    · have d1 : decide ((((x) : Nat) : Int) ≥ 65536) = true := by simp only [ge_iff_le, decide_eq_true_eq, decide_eq_false_iff_not]; omega
      by_cases g2 : 256 ≤ (x) / 2 ^ 16
      · have d2 : decide (((((x) / 2 ^ 16) : Nat) : Int) ≥ 256) = true := by simp only [ge_iff_le, decide_eq_true_eq, decide_eq_false_iff_not]; omega
        obtain ⟨m, hm, hb, hm8⟩ := tab_at (y := ((x) / 2 ^ 16) / 2 ^ 8) (by omega)
        simp only [lenTab, code, Try.f30, Option.getD_some, Code.fst, Code.snd, Code.ops, List.getElem?_toArray, List.getElem?_cons_succ, List.getElem?_cons_zero] at hm
        have hc := c_int (mt := false) (st := st) (k := .u64) (n := (((((x) / 2 ^ 16) / 2 ^ 8) : Nat) : Int)) u22 u5
        rw [wrap_u8, Nat.mod_eq_of_lt (by omega)] at hc
        have hc2 := c_int (mt := false) (st := st) (k := .u8) (n := ((m : Nat) : Int)) u5 u3
        rw [show IntKind.i64.wrap ((m : Nat) : Int) = ((m : Nat) : Int) by simp [IntKind.wrap, IntKind.bits, IntKind.signed]; omega] at hc2
        have e0 : IntKind.i64.wrap (0 + 16) = 16 := rfl
        have e1 : IntKind.i64.wrap (16 + 8) = 24 := rfl
        have ez : IntKind.i64.wrap ((24 : Int) + ((m : Nat) : Int)) = ((m + 24 : Nat) : Int) := by simp [IntKind.wrap, IntKind.bits, IntKind.signed]; omega
        refine ⟨m + 24, ?_, ?_, by omega⟩
        · simp only [code, Try.f30, Option.getD_some, aexec, aops, aop, Region.wanted, ayielded, aexecOp, aeval, aput, aseq, ablock, ahint, absOf, flat, nilCheckA, ANext.ofP, evals, evalPs, evalO, aresults, aresults1, aresult, aend, List.getElem?_set, List.length_set, Option.map_some, Option.bind_some, if_true, if_false, ↓reduceIte, Nat.reduceLT, Nat.reduceEqDiff, reduceCtorEq, Bool.false_eq_true, false_and, and_false, and_true, true_and, Nat.reduceAdd, Nat.reduceLeDiff, callA, List.getElem?_toArray, List.getElem?_cons_succ, List.getElem?_cons_zero, sb1, sb2, sb3, sb4, h0, hl, hh, b_geq, d0, d1, d2, b_shr _ _ _ _ _ _ _ _ (show (0 : Int) ≤ 32 by decide), b_shr _ _ _ _ _ _ _ _ (show (0 : Int) ≤ 16 by decide), b_shr _ _ _ _ _ _ _ _ (show (0 : Int) ≤ 8 by decide), shr_32, shr_16, shr_8', b_add, hc, hm, hc2, e0, e1, ez]
        · have q0 := hb
          have q1 := Bits.up 8 q0 (by omega)
          have q2 := Bits.up 16 q1 (by omega)
          have eq : m + 24 = m + 8 + 16 := by omega
          rw [eq]; exact q2
      · have d2 : decide (((((x) / 2 ^ 16) : Nat) : Int) ≥ 256) = false := by simp only [ge_iff_le, decide_eq_true_eq, decide_eq_false_iff_not]; omega
        obtain ⟨m, hm, hb, hm8⟩ := tab_at (y := (x) / 2 ^ 16) (by omega)
        simp only [lenTab, code, Try.f30, Option.getD_some, Code.fst, Code.snd, Code.ops, List.getElem?_toArray, List.getElem?_cons_succ, List.getElem?_cons_zero] at hm
        have hc := c_int (mt := false) (st := st) (k := .u64) (n := ((((x) / 2 ^ 16) : Nat) : Int)) u22 u5
        rw [wrap_u8, Nat.mod_eq_of_lt (by omega)] at hc
        have hc2 := c_int (mt := false) (st := st) (k := .u8) (n := ((m : Nat) : Int)) u5 u3
        rw [show IntKind.i64.wrap ((m : Nat) : Int) = ((m : Nat) : Int) by simp [IntKind.wrap, IntKind.bits, IntKind.signed]; omega] at hc2
        have e0 : IntKind.i64.wrap (0 + 16) = 16 := rfl
        have ez : IntKind.i64.wrap ((16 : Int) + ((m : Nat) : Int)) = ((m + 16 : Nat) : Int) := by simp [IntKind.wrap, IntKind.bits, IntKind.signed]; omega
        refine ⟨m + 16, ?_, ?_, by omega⟩
        · simp only [code, Try.f30, Option.getD_some, aexec, aops, aop, Region.wanted, ayielded, aexecOp, aeval, aput, aseq, ablock, ahint, absOf, flat, nilCheckA, ANext.ofP, evals, evalPs, evalO, aresults, aresults1, aresult, aend, List.getElem?_set, List.length_set, Option.map_some, Option.bind_some, if_true, if_false, ↓reduceIte, Nat.reduceLT, Nat.reduceEqDiff, reduceCtorEq, Bool.false_eq_true, false_and, and_false, and_true, true_and, Nat.reduceAdd, Nat.reduceLeDiff, callA, List.getElem?_toArray, List.getElem?_cons_succ, List.getElem?_cons_zero, sb1, sb2, sb3, sb4, h0, hl, hh, b_geq, d0, d1, d2, b_shr _ _ _ _ _ _ _ _ (show (0 : Int) ≤ 32 by decide), b_shr _ _ _ _ _ _ _ _ (show (0 : Int) ≤ 16 by decide), b_shr _ _ _ _ _ _ _ _ (show (0 : Int) ≤ 8 by decide), shr_32, shr_16, shr_8', b_add, hc, hm, hc2, e0, ez]
        · have q0 := hb
          have q1 := Bits.up 16 q0 (by omega)
          have eq : m + 16 = m + 16 := by omega
          rw [eq]; exact q1
    · have d1 : decide ((((x) : Nat) : Int) ≥ 65536) = false := by simp only [ge_iff_le, decide_eq_true_eq, decide_eq_false_iff_not]; omega
      by_cases g2 : 256 ≤ x
      · have d2 : decide ((((x) : Nat) : Int) ≥ 256) = true := by simp only [ge_iff_le, decide_eq_true_eq, decide_eq_false_iff_not]; omega
        obtain ⟨m, hm, hb, hm8⟩ := tab_at (y := (x) / 2 ^ 8) (by omega)
        simp only [lenTab, code, Try.f30, Option.getD_some, Code.fst, Code.snd, Code.ops, List.getElem?_toArray, List.getElem?_cons_succ, List.getElem?_cons_zero] at hm
        have hc := c_int (mt := false) (st := st) (k := .u64) (n := ((((x) / 2 ^ 8) : Nat) : Int)) u22 u5
        rw [wrap_u8, Nat.mod_eq_of_lt (by omega)] at hc
        have hc2 := c_int (mt := false) (st := st) (k := .u8) (n := ((m : Nat) : Int)) u5 u3
        rw [show IntKind.i64.wrap ((m : Nat) : Int) = ((m : Nat) : Int) by simp [IntKind.wrap, IntKind.bits, IntKind.signed]; omega] at hc2
        have e0 : IntKind.i64.wrap (0 + 8) = 8 := rfl
        have ez : IntKind.i64.wrap ((8 : Int) + ((m : Nat) : Int)) = ((m + 8 : Nat) : Int) := by simp [IntKind.wrap, IntKind.bits, IntKind.signed]; omega
        refine ⟨m + 8, ?_, ?_, by omega⟩
        · simp only [code, Try.f30, Option.getD_some, aexec, aops, aop, Region.wanted, ayielded, aexecOp, aeval, aput, aseq, ablock, ahint, absOf, flat, nilCheckA, ANext.ofP, evals, evalPs, evalO, aresults, aresults1, aresult, aend, List.getElem?_set, List.length_set, Option.map_some, Option.bind_some, if_true, if_false, ↓reduceIte, Nat.reduceLT, Nat.reduceEqDiff, reduceCtorEq, Bool.false_eq_true, false_and, and_false, and_true, true_and, Nat.reduceAdd, Nat.reduceLeDiff, callA, List.getElem?_toArray, List.getElem?_cons_succ, List.getElem?_cons_zero, sb1, sb2, sb3, sb4, h0, hl, hh, b_geq, d0, d1, d2, b_shr _ _ _ _ _ _ _ _ (show (0 : Int) ≤ 32 by decide), b_shr _ _ _ _ _ _ _ _ (show (0 : Int) ≤ 16 by decide), b_shr _ _ _ _ _ _ _ _ (show (0 : Int) ≤ 8 by decide), shr_32, shr_16, shr_8', b_add, hc, hm, hc2, e0, ez]
        · have q0 := hb
          have q1 := Bits.up 8 q0 (by omega)
          have eq : m + 8 = m + 8 := by omega
          rw [eq]; exact q1
      · have d2 : decide ((((x) : Nat) : Int) ≥ 256) = false := by simp only [ge_iff_le, decide_eq_true_eq, decide_eq_false_iff_not]; omega
        obtain ⟨m, hm, hb, hm8⟩ := tab_at (y := x) (by omega)
        simp only [lenTab, code, Try.f30, Option.getD_some, Code.fst, Code.snd, Code.ops, List.getElem?_toArray, List.getElem?_cons_succ, List.getElem?_cons_zero] at hm
        have hc := c_int (mt := false) (st := st) (k := .u64) (n := (((x) : Nat) : Int)) u22 u5
        rw [wrap_u8, Nat.mod_eq_of_lt (by omega)] at hc
        have hc2 := c_int (mt := false) (st := st) (k := .u8) (n := ((m : Nat) : Int)) u5 u3
        rw [show IntKind.i64.wrap ((m : Nat) : Int) = ((m : Nat) : Int) by simp [IntKind.wrap, IntKind.bits, IntKind.signed]; omega] at hc2
        have ez : IntKind.i64.wrap ((0 : Int) + ((m : Nat) : Int)) = ((m + 0 : Nat) : Int) := by simp [IntKind.wrap, IntKind.bits, IntKind.signed]; omega
        refine ⟨m + 0, ?_, ?_, by omega⟩
        · simp only [code, Try.f30, Option.getD_some, aexec, aops, aop, Region.wanted, ayielded, aexecOp, aeval, aput, aseq, ablock, ahint, absOf, flat, nilCheckA, ANext.ofP, evals, evalPs, evalO, aresults, aresults1, aresult, aend, List.getElem?_set, List.length_set, Option.map_some, Option.bind_some, if_true, if_false, ↓reduceIte, Nat.reduceLT, Nat.reduceEqDiff, reduceCtorEq, Bool.false_eq_true, false_and, and_false, and_true, true_and, Nat.reduceAdd, Nat.reduceLeDiff, callA, List.getElem?_toArray, List.getElem?_cons_succ, List.getElem?_cons_zero, sb1, sb2, sb3, sb4, h0, hl, hh, b_geq, d0, d1, d2, b_shr _ _ _ _ _ _ _ _ (show (0 : Int) ≤ 32 by decide), b_shr _ _ _ _ _ _ _ _ (show (0 : Int) ≤ 16 by decide), b_shr _ _ _ _ _ _ _ _ (show (0 : Int) ≤ 8 by decide), shr_32, shr_16, shr_8', b_add, hc, hm, hc2, ez]
        · have q0 := hb
          have eq : m + 0 = m := by omega
          rw [eq]; exact q0

theorem len64_run {x : Nat} (hx : x < 2 ^ 64) (st : ASt) : ∃ m : Nat, RetN E 1 30 [.lit (.int .u64 x)] st (.lit (.int .i64 (m : Nat))) st ∧ Bits x m ∧ m ≤ 64 := by
  obtain ⟨m, e, h⟩ := len64_code (run E 0) (drawB E 30) 0 hx (st := st) (ts := [.lit (.int .u64 x)] ++ List.replicate 24 .undef) rfl rfl
  exact ⟨m, RetN.of (n := 1) (by rw [run_code (fn := Try.f30) rfl rfl]; exact e), h⟩

end Go.Proofs.YtjpehemkgikkdaaV

/- WireLong, walked in the second reading. No condition. -/
namespace Go.Proofs.YtjpehemkgikkdaaV
open Go Go.RowKit Go.Proofs.YtjpehemkgikkdaaA
set_option linter.unusedVariables false
set_option linter.unusedSimpArgs false
set_option maxRecDepth 100000

theorem encF_bits : ∀ (m x : Nat), x < 128 ^ (m + 1) → ∃ (L : Nat) (b : UInt8) (r : List UInt8), encF m x = r ++ [b] ∧ r.length = L ∧ b < 128 ∧ ((L = 0 ∧ x < 128) ∨ (128 ^ L ≤ x ∧ x < 128 ^ (L + 1)))
  | 0, x, h => by
    simp only [Nat.zero_add, Nat.pow_one] at h
    refine ⟨0, UInt8.ofNat x, [], rfl, rfl, ?_, .inl ⟨rfl, h⟩⟩
    rw [UInt8.lt_iff_toNat_lt, UInt8.toNat_ofNat_of_lt' (by show x < 256; omega)]
    exact h
  | m + 1, x, h => by
    unfold encF
    by_cases h1 : x < 128
    · rw [if_pos h1]
      refine ⟨0, UInt8.ofNat x, [], rfl, rfl, ?_, .inl ⟨rfl, h1⟩⟩
      rw [UInt8.lt_iff_toNat_lt, UInt8.toNat_ofNat_of_lt' (by show x < 256; omega)]
      exact h1
    · rw [if_neg h1]
      have hx' : x / 128 < 128 ^ (m + 1) := by
        rw [Nat.div_lt_iff_lt_mul (by decide), ← Nat.pow_succ]; exact h
      obtain ⟨L, b, r, e, hl, hb, hc⟩ := encF_bits m (x / 128) hx'
      refine ⟨L + 1, b, UInt8.ofNat (x % 128 + 128) :: r, by rw [e]; rfl, by simp [hl], hb, .inr ?_⟩
      rcases hc with ⟨rfl, h2⟩ | ⟨h2, h3⟩
      · simp only [Nat.zero_add, Nat.pow_one]
        refine ⟨by omega, ?_⟩
        rw [Nat.div_lt_iff_lt_mul (by decide)] at h2
        have : 128 ^ (1 + 1) = 128 * 128 := rfl
        omega
      · rw [Nat.le_div_iff_mul_le (by decide), ← Nat.pow_succ] at h2
        rw [Nat.div_lt_iff_lt_mul (by decide), ← Nat.pow_succ] at h3
        exact ⟨h2, h3⟩

theorem long_plain {x m L : Nat} (hb : Bits x m) (hc : (L = 0 ∧ x < 128) ∨ (128 ^ L ≤ x ∧ x < 128 ^ (L + 1))) : L + 1 = max 1 ((m + 6) / 7) := by
  have p7 : ∀ n, (128 : Nat) ^ n = 2 ^ (7 * n) := fun n => by rw [Nat.pow_mul]
  rcases hc with ⟨rfl, h⟩ | ⟨h1, h2⟩
  · rcases hb with ⟨_, rfl⟩ | ⟨_, h3, h4⟩
    · rfl
    · have : m - 1 < 7 := (Nat.pow_lt_pow_iff_right (a := 2) (by decide)).1 (Nat.lt_of_le_of_lt h3 h)
      omega
  · rw [p7] at h1 h2
    rcases hb with ⟨rfl, _⟩ | ⟨h5, h3, h4⟩
    · have := Nat.pow_pos (n := 7 * L) (show 0 < 2 by decide); omega
    · have a1 : 7 * L < m := (Nat.pow_lt_pow_iff_right (a := 2) (by decide)).1 (Nat.lt_of_le_of_lt h1 h4)
      have a2 : m - 1 < 7 * (L + 1) := (Nat.pow_lt_pow_iff_right (a := 2) (by decide)).1 (Nat.lt_of_le_of_lt h3 h2)
      omega

theorem cf30 (a : List AVal) (st : ASt) : callFuncA E.P 30 a st = some (.enter 30 a st) := rfl

theorem long_run {s0 : ASt} (hA : AwakeIs s0) {a : Nat} (ha : a < 2 ^ 64) :
    ∃ n st', run E n 9 [.lit (.int .u64 a)] st0 = some (.returned (.lit (.bool true)), st') := by
  obtain ⟨d0, hA⟩ := hA
  obtain ⟨s1, k1, n1, w1⟩ := num_run (wat_init s0) ha (by simp)
  obtain ⟨v1, s2, n2, b1, g1⟩ := bytes_run w1.at' (by have := enc_len a; simp; omega)
  obtain ⟨m, n3, hbits, hm⟩ := len64_run ha s2
  obtain ⟨L, b, r, e, hL, hb, hc⟩ := encF_bits 9 a (lt_enc ha)
  have hmax := long_plain hbits hc
  change enc a = r ++ [b] at e
  rw [List.nil_append, e] at b1
  have hlen : (r ++ [b]).length = L + 1 := by simp [hL]
  have hL10 : L ≤ 10 := by have := enc_len a; rw [e] at this; simp at this; omega
  refine ⟨max d0 100 + 1, s2, ?_⟩
  have hN : d0 ≤ max d0 100 := Nat.le_max_left _ _
  have hN2 : 100 ≤ max d0 100 := Nat.le_max_right _ _
  generalize max d0 100 = N at hN hN2
  have c0 := hA N hN
  have c1 := n1 N (by omega)
  have c2 := n2 N (by omega)
  have c3 := n3 N (by omega)
  rw [run_code (fn := Try.f9) rfl rfl]
  have hh : ∀ t, E.hint 9 t = false := fun _ => rfl
  obtain ⟨ts, et, h0, hl⟩ : ∃ ts : List AVal, ([AVal.lit (.int .u64 a)] ++ List.replicate (Try.f9.ntmps - [AVal.lit (.int .u64 a)].length) .undef) = ts ∧ ts[0]? = some (.lit (.int .u64 a)) ∧ ts.length = 32 := ⟨_, rfl, rfl, rfl⟩
  rw [et]
  have hnot : ∀ b, pureV E.P (Op.unary .not (.bool b)) = some (.lit (.bool (!b))) := fun _ => rfl
  have q1 : IntKind.i64.wrap ((m : Int) + 6) = ((m + 6 : Nat) : Int) := by simp [IntKind.wrap, IntKind.bits, IntKind.signed]; omega
  have q2 : IntKind.i64.wrap (((m + 6 : Nat) : Int).tdiv 7) = (((m + 6) / 7 : Nat) : Int) := by
    have : ((m + 6 : Nat) : Int).tdiv 7 = (((m + 6) / 7 : Nat) : Int) := by
      rw [Int.tdiv_eq_ediv_of_nonneg (by omega)]; rfl
    rw [this]
    simp [IntKind.wrap, IntKind.bits, IntKind.signed]; omega
  have q3 : ∀ (mt : Bool) ty cs st, builtinA E.P mt .max #[3, 3] ty cs [.lit (.int .i64 1), .lit (.int .i64 (((m + 6) / 7 : Nat) : Int))] st = some (.val (.lit (.int .i64 ((L + 1 : Nat) : Int))) st) := by
    intro mt ty cs st
    have e3 : builtinA E.P mt .max #[3, 3] ty cs [.lit (.int .i64 1), .lit (.int .i64 (((m + 6) / 7 : Nat) : Int))] st = some (.val (.lit (.int .i64 (if (((m + 6) / 7 : Nat) : Int) > 1 then (((m + 6) / 7 : Nat) : Int) else 1))) st) := rfl
    rw [e3, hmax]
    congr 5
    split <;> omega
  have q4 : IntKind.i64.wrap (((L + 1 : Nat) : Int) - 1) = ((L : Nat) : Int) := by simp [IntKind.wrap, IntKind.bits, IntKind.signed]; omega
  obtain ⟨p5, q5, q5'⟩ := bs_idx b1 (i := L) (by omega)
  have q6 : (r ++ [b])[L]'(by omega) = b := by simp [← hL]
  rw [q6] at q5'
  unfold byteA at q5'
  have q7 : decide (((b.toNat : Nat) : Int) < 128) = true := by
    rw [decide_eq_true_eq]; rw [UInt8.lt_iff_toNat_lt] at hb; exact_mod_cast hb
  have q8 : decide (((L + 1 : Nat) : Int) > 0) = true := by rw [decide_eq_true_eq]; omega
  simp only [code, Try.f9, Option.getD_some, Code.fst, Code.snd, Code.inn, aexec, aops, aop, Region.wanted, ayielded, aexecOp, aeval, aput, aseq, ablock, ahint, absOf, flat, nilCheckA, ANext.ofP, evals, evalPs, evalO, aresults, aresults1, aresult, aend, List.getElem?_set, List.length_set, Option.map_some, Option.bind_some, if_true, if_false, ↓reduceIte, Nat.reduceLT, Nat.reduceEqDiff, reduceCtorEq, Bool.false_eq_true, false_and, and_false, and_true, true_and, Nat.reduceAdd, Nat.reduceLeDiff, callA, List.getElem?_toArray, List.getElem?_cons_succ, List.getElem?_cons_zero, sb1, sb2, sb3, sb4, hh, cf15, cf16, cf18, cf30, h0, hl, c0, YtjpehemkgikkdaaA.valOf, hnot, Bool.not_true, alloc_w, c1, c2, c3, bs_len b1, hlen, b_add, q1, b_quo _ _ _ _ _ _ _ (show (7 : Int) ≠ 0 by decide), q2, q3, b_eql, beq_self_eq_true, b_gtr, q8, b_sub, q4, q5, q5', b_lss, q7]

theorem long_calls {a : Nat} (ha : a < 2 ^ 64) (W : World) :
    Calls Try.prog 9 #[.int .u64 a] W (fun e w' => e = .returned (.bool true) ∧ Below W.heap.size W w') := by
  obtain ⟨s0, hA⟩ := awake
  obtain ⟨n, st', h⟩ := long_run hA ha
  refine law_of_run mixed (fun _ => rfl) h (W := W) ⟨rfl, fun j x u hj hu => ?_⟩
  match j with
  | 0 => cases hj; cases hu; exact Rep.lit rfl
  | j + 1 => simp at hj

end Go.Proofs.YtjpehemkgikkdaaV

/- Raw's contract, the document's Num, and appending to bytes that own their room. No condition. -/
namespace Go.Proofs.YtjpehemkgikkdaaV
open Go Go.RowKit Go.Proofs.YtjpehemkgikkdaaA
set_option linter.unusedVariables false
set_option linter.unusedSimpArgs false
set_option maxRecDepth 100000

/-- bytes that own the room behind them -/
structure Own' (st : ASt) (l : List UInt8) (k : Option Nat) : Prop where
  nil : k = none → l = []
  room : ∀ t, k = some t → t < st.ctr ∧ st.heap t = some (.cells [])

theorem app_room {st : ASt} {l n : List UInt8} {k : Option Nat} {x : AVal} (h : Own' st l k) (hx : srcA E.P 5 24 false 1 st x = some (n.map byteA)) (hl : l.length + n.length ≤ 1073741824) :
    ∃ k' st', appendA E.P false 24 24 (wval l k) x st = some (wval (l ++ n) k', st') ∧ Own' st' (l ++ n) k' ∧ st.ctr ≤ st'.ctr ∧ (∀ j, j < st.ctr → k ≠ some j → st'.heap j = st.heap j) ∧ (∀ j, k' = some j → st.ctr ≤ j ∨ k = some j) := by
  by_cases hn : n = []
  · subst hn
    refine ⟨k, st, ?_, by simpa using h, Nat.le_refl _, fun _ _ _ => rfl, fun j e => .inr e⟩
    rw [List.append_nil]
    exact app_none byteT hx (by cases k; exact .inl rfl; exact .inr ⟨_, _, rfl⟩)
  · refine ⟨some st.ctr, (wclr st k).new (.cells []), ?_, ⟨fun e => (by cases e), fun t e => ?_⟩, ?_, fun j hj hk => ?_, fun j e => .inl (by cases e; exact Nat.le_refl _)⟩
    · have hne : n.map byteA ≠ [] := by simpa using hn
      cases k with
      | none =>
        have := h.nil rfl
        subst this
        exact app_nil byteT hx hne (by simpa using hl)
      | some t =>
        show appendA E.P false 24 24 (.islice 1 (l.map byteA) (.tok t)) x st = some (.islice 1 ((l ++ n).map byteA) (.tok st.ctr), _)
        rw [List.map_append]
        exact app_tok byteT (bytes_ok l) hx hne (by simpa using hl) (h.room t rfl).2
    · cases e
      have := wclr_ctr st k
      refine ⟨by simp only [ASt.new]; omega, ?_⟩
      rw [← this]; simp [ASt.new]
    · have := wclr_ctr st k
      simp only [ASt.new]; omega
    · rw [ASt.new_ne _ _ _ (by rw [wclr_ctr]; omega), wclr_heap _ _ _ hk]

theorem wat_own {st : ASt} {s : Nat} {l : List UInt8} {k : Option Nat} (h : WAt st s l k) : Own' st l k := by
  refine ⟨fun e => ?_, fun t e => ?_⟩
  · subst e; exact h.2.1
  · subst e; exact ⟨h.2.1, h.2.2.2.2⟩

theorem load_w {st : ASt} {s : Nat} {l : List UInt8} {k : Option Nat} (hw : WAt st s l k) : loadA E.P 24 st (.ptr s 0) = some (wval l k) := by
  have : loadA E.P 24 st (.ptr s 0) = (match st.heap s with
    | some (.cells cs) => partA E.P 24 cs 0
    | _ => none) := rfl
  rw [this, hw.cell]
  rfl

theorem store_w {st : ASt} {s : Nat} {v : AVal} (hs : st.heap s = some (.cells [v])) (l : List UInt8) (k : Option Nat) : storeA E.P 24 st (.ptr s 0) (wval l k) = some (st.set s (some (.cells [wval l k]))) := by
  have : storeA E.P 24 st (.ptr s 0) (wval l k) = (match st.heap s with
    | some (.cells cs) => if szOf E.P 24 = some (wval l k).cells.length ∧ 0 + (wval l k).cells.length ≤ cs.length ∧ (wval l k).cells.all AVal.isCell = true then some (st.set s (some (.cells (putL cs 0 (wval l k).cells)))) else none
    | _ => none) := rfl
  rw [this, hs]
  cases k <;> rfl

theorem raw_run {s : Nat} {l n : List UInt8} {k : Option Nat} {st : ASt} {x : AVal} (hw : WAt st s l k) (hx : srcA E.P 5 24 false 1 st x = some (n.map byteA)) (hlen : l.length + n.length ≤ 1000000) :
    ∃ st' k', RetN E 1 19 [.ptr s 0, x] st (.tuple []) st' ∧ Wr st st' s k k' (l ++ n) := by
  obtain ⟨k', st1, e, ho, hc, hf, hk'⟩ := app_room (wat_own hw) hx (by omega)
  have h1 := hw.1
  have hks : k ≠ some s := by
    intro e; subst e; exact hw.2.2.1 rfl
  have hs : st1.heap s = some (.cells [wval l k]) := by rw [hf s h1 hks]; exact hw.cell
  have hk's : k' ≠ some s := by
    intro e2
    rcases hk' s e2 with h2 | h2
    · omega
    · exact hks h2
  refine ⟨st1.set s (some (.cells [wval (l ++ n) k'])), k', RetN.of (n := 0 + 1) ?_, ?_, ⟨?_, fun j hj hne hk => ?_⟩, hk'⟩
  · rw [run_code (fn := Try.f19) rfl rfl]
    have hh : ∀ t, E.hint 19 t = false := fun _ => rfl
    obtain ⟨ts, et, t0, t1, tl⟩ : ∃ ts : List AVal, ([AVal.ptr s 0, x] ++ List.replicate (Try.f19.ntmps - [AVal.ptr s 0, x].length) .undef) = ts ∧ ts[0]? = some (.ptr s 0) ∧ ts[1]? = some x ∧ ts.length = 13 := ⟨_, rfl, rfl, rfl, rfl⟩
    rw [et]
    simp only [code, Try.f19, Option.getD_some, aexec, aops, aop, Region.wanted, ayielded, aexecOp, aeval, aput, aseq, ablock, ahint, absOf, flat, nilCheckA, ANext.ofP, evals, evalPs, evalO, aresults, aresults1, aresult, aend, List.getElem?_set, List.length_set, Option.map_some, Option.bind_some, if_true, if_false, ↓reduceIte, Nat.reduceLT, Nat.reduceEqDiff, reduceCtorEq, Bool.false_eq_true, false_and, and_false, and_true, true_and, Nat.reduceAdd, Nat.reduceLeDiff, callA, List.getElem?_toArray, List.getElem?_cons_succ, List.getElem?_cons_zero, sb1, sb2, sb3, sb4, t0, t1, tl, hh, fld26, load_w hw, builtinA, e, store_w hs]
  · refine ⟨by simp only [ASt.set]; omega, ?_⟩
    cases hk2 : k' with
    | none =>
      have h3 := ho.nil hk2
      exact ⟨h3, by simp [ASt.set, wval]⟩
    | some t =>
      obtain ⟨h3, h4⟩ := ho.room t hk2
      have hts : t ≠ s := fun e2 => hk's (by rw [hk2, e2])
      exact ⟨by simpa [ASt.set] using h3, hts, by simp [ASt.set, wval], by rw [ASt.set_ne _ _ _ _ hts]; exact h4⟩
  · simp only [ASt.set]; exact hc
  · rw [ASt.set_ne _ _ _ _ hne]; exact hf j hj hk

theorem cf20 (a : List AVal) (st : ASt) : callFuncA E.P 20 a st = some (.enter 20 a st) := rfl
theorem cf19 (a : List AVal) (st : ASt) : callFuncA E.P 19 a st = some (.enter 19 a st) := rfl

theorem refnum_run : ∀ (m x : Nat) (st : ASt), x < 128 ^ (m + 1) → x < 2 ^ 64 → m ≤ 9 → ∃ v st', RetN E (m + 1) 20 [.lit (.int .u64 x)] st v st' ∧ IsB v (encF m x) ∧ Gr st st' := by
  intro m
  induction m with
  | zero =>
    intro x st hx hx2 _
    simp only [Nat.zero_add, Nat.pow_one] at hx
    refine ⟨.islice 1 [byteA (UInt8.ofNat x)] .exact, st, RetN.of (n := 0 + 1) ?_, .inl ⟨_, rfl⟩, Gr.refl _⟩
    rw [run_code (fn := Try.f20) rfl rfl]
    have hh : ∀ t, E.hint 20 t = false := fun _ => rfl
    obtain ⟨ts, et, t0, tl⟩ : ∃ ts : List AVal, ([AVal.lit (.int .u64 x)] ++ List.replicate (Try.f20.ntmps - [AVal.lit (.int .u64 x)].length) .undef) = ts ∧ ts[0]? = some (.lit (.int .u64 x)) ∧ ts.length = 17 := ⟨_, rfl, rfl, rfl⟩
    rw [et]
    have hd : decide ((x : Int) < 128) = true := by rw [decide_eq_true_eq]; omega
    have hc := c_int (mt := false) (st := st) (k := .u64) (n := (x : Int)) u22 u5
    rw [wrap_u8, Nat.mod_eq_of_lt (by omega), byteA_lit x (by omega)] at hc
    simp only [code, Try.f20, Option.getD_some, aexec, aops, aop, Region.wanted, ayielded, aexecOp, aeval, aput, aseq, ablock, ahint, absOf, flat, nilCheckA, ANext.ofP, evals, evalPs, evalO, aresults, aresults1, aresult, aend, List.getElem?_set, List.length_set, Option.map_some, Option.bind_some, if_true, if_false, ↓reduceIte, Nat.reduceLT, Nat.reduceEqDiff, reduceCtorEq, Bool.false_eq_true, false_and, and_false, and_true, true_and, Nat.reduceAdd, Nat.reduceLeDiff, callA, List.getElem?_toArray, List.getElem?_cons_succ, List.getElem?_cons_zero, sb1, sb2, sb3, sb4, t0, tl, hh, b_lss, hd, hc, bs1 (byteA (UInt8.ofNat x)) st rfl]
  | succ m ih =>
    intro x st hx hx2 hm
    rw [encF]
    by_cases h1 : x < 128
    · rw [if_pos h1]
      refine ⟨.islice 1 [byteA (UInt8.ofNat x)] .exact, st, RetN.of (n := m + 1 + 1) ?_, .inl ⟨_, rfl⟩, Gr.refl _⟩
      rw [run_code (fn := Try.f20) rfl rfl]
      have hh : ∀ t, E.hint 20 t = false := fun _ => rfl
      obtain ⟨ts, et, t0, tl⟩ : ∃ ts : List AVal, ([AVal.lit (.int .u64 x)] ++ List.replicate (Try.f20.ntmps - [AVal.lit (.int .u64 x)].length) .undef) = ts ∧ ts[0]? = some (.lit (.int .u64 x)) ∧ ts.length = 17 := ⟨_, rfl, rfl, rfl⟩
      rw [et]
      have hd : decide ((x : Int) < 128) = true := by rw [decide_eq_true_eq]; omega
      have hc := c_int (mt := false) (st := st) (k := .u64) (n := (x : Int)) u22 u5
      rw [wrap_u8, Nat.mod_eq_of_lt (by omega), byteA_lit x (by omega)] at hc
      simp only [code, Try.f20, Option.getD_some, aexec, aops, aop, Region.wanted, ayielded, aexecOp, aeval, aput, aseq, ablock, ahint, absOf, flat, nilCheckA, ANext.ofP, evals, evalPs, evalO, aresults, aresults1, aresult, aend, List.getElem?_set, List.length_set, Option.map_some, Option.bind_some, if_true, if_false, ↓reduceIte, Nat.reduceLT, Nat.reduceEqDiff, reduceCtorEq, Bool.false_eq_true, false_and, and_false, and_true, true_and, Nat.reduceAdd, Nat.reduceLeDiff, callA, List.getElem?_toArray, List.getElem?_cons_succ, List.getElem?_cons_zero, sb1, sb2, sb3, sb4, t0, tl, hh, b_lss, hd, hc, bs1 (byteA (UInt8.ofNat x)) st rfl]
    · rw [if_neg h1]
      have hx' : x / 128 < 128 ^ (m + 1) := by
        rw [Nat.div_lt_iff_lt_mul (by decide), ← Nat.pow_succ]; exact hx
      obtain ⟨v, st', n1, b1, g1⟩ := ih (x / 128) st hx' (by omega) (by omega)
      have hne : encF m (x / 128) ≠ [] := by
        obtain ⟨L, b, r, e, _⟩ := encF_bits m (x / 128) hx'
        rw [e]; simp
      have happ := app_exact (st := st') byteT (es := [byteA (UInt8.ofNat (x % 128 + 128))]) (x := v) rfl (src_b b1 st') (by simpa using hne) (by have := encF_len m (x / 128); simp; omega)
      refine ⟨.islice 1 ((UInt8.ofNat (x % 128 + 128) :: encF m (x / 128)).map byteA) (.tok st'.ctr), st'.new (.cells []), RetN.of (n := m + 1 + 1) ?_, .inl ⟨_, rfl⟩, g1.trans (Gr.new st' (.cells []))⟩
      · rw [run_code (fn := Try.f20) rfl rfl]
        have hh : ∀ t, E.hint 20 t = false := fun _ => rfl
        obtain ⟨ts, et, t0, tl⟩ : ∃ ts : List AVal, ([AVal.lit (.int .u64 x)] ++ List.replicate (Try.f20.ntmps - [AVal.lit (.int .u64 x)].length) .undef) = ts ∧ ts[0]? = some (.lit (.int .u64 x)) ∧ ts.length = 17 := ⟨_, rfl, rfl, rfl⟩
        rw [et]
        have hd : decide ((x : Int) < 128) = false := by rw [decide_eq_false_iff_not]; omega
        have q1 : (x : Int).tmod 128 = ((x % 128 : Nat) : Int) := by rw [Int.tmod_eq_emod_of_nonneg (by omega)]; rfl
        have q2 : IntKind.u64.wrap (128 + ((x % 128 : Nat) : Int)) = ((x % 128 + 128 : Nat) : Int) := by
          have : (128 + ((x % 128 : Nat) : Int)) = ((x % 128 + 128 : Nat) : Int) := by omega
          rw [this]
          exact wrap_u rfl (by simp only [IntKind.bits]; omega)
        have q3 : IntKind.u64.wrap ((x : Int).tdiv 128) = ((x / 128 : Nat) : Int) := by
          have : (x : Int).tdiv 128 = ((x / 128 : Nat) : Int) := by rw [Int.tdiv_eq_ediv_of_nonneg (by omega)]; rfl
          rw [this]
          exact wrap_u rfl (by simp only [IntKind.bits]; omega)
        have hc := c_int (mt := false) (st := st) (k := .u64) (n := ((x % 128 + 128 : Nat) : Int)) u22 u5
        rw [wrap_u8, Nat.mod_eq_of_lt (show x % 128 + 128 < 256 by omega), byteA_lit (x % 128 + 128) (by omega)] at hc
        have c1 := n1 (m + 1) (Nat.le_refl _)
        simp only [code, Try.f20, Option.getD_some, aexec, aops, aop, Region.wanted, ayielded, aexecOp, aeval, aput, aseq, ablock, ahint, absOf, flat, nilCheckA, ANext.ofP, evals, evalPs, evalO, aresults, aresults1, aresult, aend, List.getElem?_set, List.length_set, Option.map_some, Option.bind_some, if_true, if_false, ↓reduceIte, Nat.reduceLT, Nat.reduceEqDiff, reduceCtorEq, Bool.false_eq_true, false_and, and_false, and_true, true_and, Nat.reduceAdd, Nat.reduceLeDiff, callA, List.getElem?_toArray, List.getElem?_cons_succ, List.getElem?_cons_zero, sb1, sb2, sb3, sb4, t0, tl, hh, b_lss, hd, b_rem _ _ _ _ _ _ _ (show (128 : Int) ≠ 0 by decide), q1, b_add, q2, hc, bs1 (byteA (UInt8.ofNat (x % 128 + 128))) st rfl, b_quo _ _ _ _ _ _ _ (show (128 : Int) ≠ 0 by decide), q3, cf20, c1, builtinA, happ]
        rfl

end Go.Proofs.YtjpehemkgikkdaaV

/- The laws' arguments: bytes, items. No condition. -/
namespace Go.Proofs.YtjpehemkgikkdaaV
open Go Go.RowKit Go.Proofs.YtjpehemkgikkdaaA
set_option linter.unusedVariables false
set_option linter.unusedSimpArgs false
set_option maxRecDepth 100000

theorem u31 : E.P.underlying 31 = some (.slice 33) := rfl
theorem c5 : E.P.cellsOf 5 = 1 := rfl
theorem c33 : E.P.cellsOf 33 = 3 := rfl
theorem row5 (c : AVal) : ofRow E.P 5 [c] = c := rfl

theorem dat_int {n : Nat} {t : TypeId} {k : IntKind} {cells : List AVal} (hu : E.P.underlying t = some (.int k)) (h : Dat E.P n t cells) : ∃ i, cells = [.lit (.int k i)] ∧ k.min ≤ i ∧ i ≤ k.max := by
  cases n with
  | zero => cases h
  | succ n => unfold Dat at h; rw [hu] at h; exact h

theorem dat_bool {n : Nat} {t : TypeId} {cells : List AVal} (hu : E.P.underlying t = some .bool) (h : Dat E.P n t cells) : ∃ b, cells = [.lit (.bool b)] := by
  cases n with
  | zero => cases h
  | succ n => unfold Dat at h; rw [hu] at h; exact h

theorem byte_rows {n : Nat} : ∀ rows : List (List AVal), (∀ r ∈ rows, Dat E.P n 5 r) → ∃ l : List UInt8, rows.map (ofRow E.P 5) = l.map byteA
  | [], h => ⟨[], rfl⟩
  | r :: rows, h => by
    obtain ⟨l, hl⟩ := byte_rows rows fun x hx => h x (List.mem_cons_of_mem _ hx)
    obtain ⟨i, rfl, h1, h2⟩ := dat_int u5 (h r (List.mem_cons_self ..))
    have h1' : (0 : Int) ≤ i := h1
    have h2' : i ≤ 255 := h2
    refine ⟨UInt8.ofNat i.toNat :: l, ?_⟩
    rw [List.map_cons, List.map_cons, hl, row5, ← byteA_lit i.toNat (by omega), Int.toNat_of_nonneg h1']

theorem dat_bytes {n : Nat} {cells : List AVal} (h : Dat E.P n 24 cells) : ∃ v l, cells = [v] ∧ IsB v l := by
  cases n with
  | zero => cases h
  | succ n =>
    unfold Dat at h
    rw [u24] at h
    rcases h with ⟨a, rfl⟩ | ⟨rows, rfl, _, hr⟩
    · exact ⟨_, [], rfl, .inr ⟨a, rfl, rfl⟩⟩
    · obtain ⟨l, hl⟩ := byte_rows rows fun r hr' => (hr r hr').2.2
      exact ⟨_, l, rfl, .inl ⟨.unk, by rw [hl, c5]⟩⟩

theorem datv_bytes {n : Nat} {v : AVal} (h : DatV E.P n 24 v) : ∃ l, IsB v l := by
  obtain ⟨cells, h1, _, rfl⟩ := h
  obtain ⟨v, l, rfl, hb⟩ := dat_bytes h1
  exact ⟨l, hb⟩

theorem datv_int {n : Nat} {t : TypeId} {k : IntKind} {v : AVal} (hu : E.P.underlying t = some (.int k)) (hr : rowB E.P t = false) (h : DatV E.P n t v) : ∃ i, v = .lit (.int k i) ∧ k.min ≤ i ∧ i ≤ k.max := by
  obtain ⟨cells, h1, _, rfl⟩ := h
  obtain ⟨i, rfl, h2⟩ := dat_int hu h1
  exact ⟨i, by unfold ofRow; rw [hr]; rfl, h2⟩

/-- an item -/
structure Item where
  n : Nat
  v : AVal
  raw : List UInt8
  is : Bool
instance : Inhabited Item := ⟨⟨0, .undef, [], false⟩⟩
def Item.a (it : Item) : AVal := .agg [.lit (.int .u64 it.n), it.v, .lit (.bool it.is)]
def Item.ok (it : Item) : Prop := it.n < 2 ^ 64 ∧ IsB it.v it.raw

def Items (v : AVal) (its : List Item) : Prop := (∃ a, v = .lit (.slice a 0 0) ∧ its = []) ∨ v = .islice 3 (its.map Item.a) .unk

theorem u33 : ∃ f0 f1 f2, E.P.underlying 33 = some (.struct #[f0, f1, f2]) ∧ f0.type = 22 ∧ f0.offset = 0 ∧ f1.type = 24 ∧ f1.offset = 1 ∧ f2.type = 4 ∧ f2.offset = 2 := ⟨_, _, _, rfl, rfl, rfl, rfl, rfl, rfl, rfl⟩
theorem c22 : E.P.cellsOf 22 = 1 := rfl
theorem c24 : E.P.cellsOf 24 = 1 := rfl
theorem c4 : E.P.cellsOf 4 = 1 := rfl

theorem dat_item {n : Nat} {r : List AVal} (h : Dat E.P n 33 r) : ∃ it : Item, ofRow E.P 33 r = it.a ∧ it.ok := by
  cases n with
  | zero => cases h
  | succ n =>
    obtain ⟨f0, f1, f2, hu, t0, o0, t1, o1, t2, o2⟩ := u33
    unfold Dat at h
    rw [hu] at h
    obtain ⟨hl, hf⟩ := h
    rw [c33] at hl
    match r, hl with
    | [a, b, c], _ =>
      have h0 := hf f0 (by simp)
      have h1 := hf f1 (by simp)
      have h2 := hf f2 (by simp)
      rw [t0, o0, c22] at h0
      rw [t1, o1, c24] at h1
      rw [t2, o2, c4] at h2
      obtain ⟨i, e0, i1, i2⟩ := dat_int u22 h0
      obtain ⟨v, l, e1, hb⟩ := dat_bytes h1
      obtain ⟨q, e2⟩ := dat_bool u4 h2
      simp only [List.drop_zero, List.take_succ_cons, List.take_zero, List.cons.injEq, and_true] at e0
      simp only [List.drop_succ_cons, List.drop_zero, List.take_succ_cons, List.take_zero, List.cons.injEq, and_true] at e1 e2
      subst e0 e1 e2
      have i1' : (0 : Int) ≤ i := i1
      have i2' : i ≤ 18446744073709551615 := i2
      refine ⟨⟨i.toNat, b, l, q⟩, ?_, by show i.toNat < 2 ^ 64; omega, hb⟩
      have : ofRow E.P 33 [.lit (.int .u64 i), b, .lit (.bool q)] = .agg [.lit (.int .u64 i), b, .lit (.bool q)] := rfl
      rw [this]
      simp only [Item.a, Int.toNat_of_nonneg i1']

theorem item_rows {n : Nat} : ∀ rows : List (List AVal), (∀ r ∈ rows, Dat E.P n 33 r) → ∃ its : List Item, rows.map (ofRow E.P 33) = its.map Item.a ∧ ∀ it ∈ its, it.ok
  | [], h => ⟨[], rfl, fun it hi => by cases hi⟩
  | r :: rows, h => by
    obtain ⟨its, hl, hk⟩ := item_rows rows fun x hx => h x (List.mem_cons_of_mem _ hx)
    obtain ⟨it, e, ok⟩ := dat_item (h r (List.mem_cons_self ..))
    refine ⟨it :: its, by rw [List.map_cons, List.map_cons, hl, e], fun x hx => ?_⟩
    rcases List.mem_cons.1 hx with rfl | hx
    · exact ok
    · exact hk x hx

theorem datv_items {n : Nat} {v : AVal} (h : DatV E.P n 31 v) : ∃ its : List Item, Items v its ∧ its.length ≤ maxLen ∧ ∀ it ∈ its, it.ok := by
  obtain ⟨cells, h1, _, rfl⟩ := h
  cases n with
  | zero => cases h1
  | succ n =>
    unfold Dat at h1
    rw [u31] at h1
    rcases h1 with ⟨a, rfl⟩ | ⟨rows, rfl, hl, hr⟩
    · exact ⟨[], .inl ⟨a, rfl, rfl⟩, by simp, fun it hi => by cases hi⟩
    · obtain ⟨its, e, hk⟩ := item_rows rows fun r hr' => (hr r hr').2.2
      refine ⟨its, .inr ?_, ?_, hk⟩
      · show AVal.islice (E.P.cellsOf 33) (rows.map (ofRow E.P 33)) .unk = _
        rw [e, c33]
      · have := congrArg List.length e
        simp at this
        omega

theorem len_items {v : AVal} {its : List Item} (h : Items v its) (mt : Bool) (ty : TypeId) (cs : Array Bool) (st : ASt) :
    builtinA E.P mt .len #[31] ty cs [v] st = some (.val (.lit (.int .i64 its.length)) st) := by
  rcases h with ⟨a, rfl, rfl⟩ | rfl
  · rfl
  · rw [len_islice (e := 33) u31]; simp

theorem idx_items {v : AVal} {its : List Item} (h : Items v its) {i : Nat} (hi : i < its.length) : indexA E.P 31 v (.lit (.int .i64 i)) = some (.iptr its[i].a) := by
  rcases h with ⟨a, rfl, rfl⟩ | rfl
  · simp at hi
  · have : indexA E.P 31 (.islice 3 (its.map Item.a) .unk) (.lit (.int .i64 i)) = if 0 ≤ (i : Int) ∧ (i : Int) < (its.map Item.a).length ∧ (some 3 : Option Nat) = some 3 then ((its.map Item.a)[(i : Int).toNat]?).map .iptr else none := rfl
    rw [this, if_pos ⟨by omega, by simp; omega, rfl⟩]
    simp [hi]

theorem load_item (it : Item) (st : ASt) : loadA E.P 33 st (.iptr it.a) = some it.a := rfl

end Go.Proofs.YtjpehemkgikkdaaV

/- WirePuts, walked in the second reading: one item. No condition. -/
namespace Go.Proofs.YtjpehemkgikkdaaV
open Go Go.RowKit Go.Proofs.YtjpehemkgikkdaaA
set_option linter.unusedVariables false
set_option linter.unusedSimpArgs false
set_option maxRecDepth 100000

def Item.cs (it : Item) : List AVal := [.lit (.int .u64 it.n), it.v, .lit (.bool it.is)]
/-- the state behind an item laid down -/
def laidI (st : ASt) (it : Item) : ASt := (st.new (.cells [.lit (.int .u64 0), .nilSlice, .lit (.bool false)])).set st.ctr (some (.cells it.cs))

theorem laidI_gr (st : ASt) (it : Item) : Gr st (laidI st it) :=
  ⟨by simp [laidI, ASt.set, ASt.new], fun j hj => by unfold laidI; rw [ASt.set_ne _ _ _ _ (by omega), ASt.new_ne _ _ _ (by omega)]⟩
theorem laidI_at (st : ASt) (it : Item) : (laidI st it).heap st.ctr = some (.cells it.cs) := by simp [laidI, ASt.set]
theorem laidI_ctr (st : ASt) (it : Item) : (laidI st it).ctr = st.ctr + 1 := rfl

theorem alloc_i (st : ASt) : allocA E.P 33 st = some (.ptr st.ctr 0, st.new (.cells [.lit (.int .u64 0), .nilSlice, .lit (.bool false)])) := rfl

theorem store_i (st : ASt) (it : Item) (h : IsB it.v it.raw) : storeA E.P 33 (st.new (.cells [.lit (.int .u64 0), .nilSlice, .lit (.bool false)])) (.ptr st.ctr 0) it.a = some (laidI st it) := by
  have hs : (st.new (.cells [.lit (.int .u64 0), .nilSlice, .lit (.bool false)])).heap st.ctr = some (.cells [.lit (.int .u64 0), .nilSlice, .lit (.bool false)]) := by simp [ASt.new]
  obtain ⟨n, v, raw, b⟩ := it
  rcases h with ⟨c, e⟩ | ⟨a, e, _⟩ <;> simp only at e <;> subst e
  · have : storeA E.P 33 (st.new (.cells [.lit (.int .u64 0), .nilSlice, .lit (.bool false)])) (.ptr st.ctr 0) (.agg [.lit (.int .u64 n), .islice 1 (raw.map byteA) c, .lit (.bool b)]) = (match (st.new (.cells [.lit (.int .u64 0), .nilSlice, .lit (.bool false)])).heap st.ctr with
      | some (.cells cs) => if szOf E.P 33 = some 3 ∧ 0 + 3 ≤ cs.length ∧ true = true then some ((st.new (.cells [.lit (.int .u64 0), .nilSlice, .lit (.bool false)])).set st.ctr (some (.cells (putL cs 0 [.lit (.int .u64 n), .islice 1 (raw.map byteA) c, .lit (.bool b)])))) else none
      | _ => none) := rfl
    show storeA E.P 33 _ _ (.agg [.lit (.int .u64 n), .islice 1 (raw.map byteA) c, .lit (.bool b)]) = _
    rw [this, hs]
    rfl
  · have : storeA E.P 33 (st.new (.cells [.lit (.int .u64 0), .nilSlice, .lit (.bool false)])) (.ptr st.ctr 0) (.agg [.lit (.int .u64 n), .lit (.slice a 0 0), .lit (.bool b)]) = (match (st.new (.cells [.lit (.int .u64 0), .nilSlice, .lit (.bool false)])).heap st.ctr with
      | some (.cells cs) => if szOf E.P 33 = some 3 ∧ 0 + 3 ≤ cs.length ∧ true = true then some ((st.new (.cells [.lit (.int .u64 0), .nilSlice, .lit (.bool false)])).set st.ctr (some (.cells (putL cs 0 [.lit (.int .u64 n), .lit (.slice a 0 0), .lit (.bool b)])))) else none
      | _ => none) := rfl
    show storeA E.P 33 _ _ (.agg [.lit (.int .u64 n), .lit (.slice a 0 0), .lit (.bool b)]) = _
    rw [this, hs]
    rfl

theorem ld_i {st : ASt} {s6 : Nat} {it : Item} (h : st.heap s6 = some (.cells it.cs)) : loadA E.P 22 st (.ptr s6 0) = some (.lit (.int .u64 it.n)) ∧ loadA E.P 24 st (.ptr s6 1) = some it.v ∧ loadA E.P 4 st (.ptr s6 2) = some (.lit (.bool it.is)) := by
  have a0 : loadA E.P 22 st (.ptr s6 0) = (match st.heap s6 with | some (.cells cs) => cs[0]? | _ => none) := rfl
  have a1 : loadA E.P 24 st (.ptr s6 1) = (match st.heap s6 with | some (.cells cs) => cs[1]? | _ => none) := rfl
  have a2 : loadA E.P 4 st (.ptr s6 2) = (match st.heap s6 with | some (.cells cs) => cs[2]? | _ => none) := rfl
  rw [a0, a1, a2, h]
  exact ⟨rfl, rfl, rfl⟩

theorem fld33 (s : Nat) : fieldA E.P 33 (.ptr s 0) 0 = some (.ptr s 0) ∧ fieldA E.P 33 (.ptr s 0) 1 = some (.ptr s 1) ∧ fieldA E.P 33 (.ptr s 0) 2 = some (.ptr s 2) := ⟨rfl, rfl, rfl⟩

noncomputable def ptBody : Code := (code Try.f4).snd.snd.snd.snd.snd.fst.snd.inn
noncomputable def ptPre : Code := .seq (code Try.f4).fst (.seq (code Try.f4).snd.fst (.seq (code Try.f4).snd.snd.fst (.seq (code Try.f4).snd.snd.snd.fst (.seq (code Try.f4).snd.snd.snd.snd.fst (code Try.f4).snd.snd.snd.snd.snd.fst.fst))))
noncomputable def ptEnd : Code := (code Try.f4).snd.snd.snd.snd.snd.snd

/-- a writer, and what is to be in it -/
structure Both (st : ASt) (s : Nat) (l : List UInt8) (kw kt : Option Nat) : Prop where
  w : WAt st s l kw
  t : Own' st l kt
  ts : kt ≠ some s
  tw : ∀ j, kt = some j → kw ≠ some j

theorem Both.lt {st : ASt} {s : Nat} {l : List UInt8} {kw kt : Option Nat} (h : Both st s l kw kt) : ∀ j, kw = some j → j < st.ctr := by
  intro j e
  have := h.w
  subst e
  exact this.2.1

theorem Both.gr {st st' : ASt} {s : Nat} {l : List UInt8} {kw kt : Option Nat} (h : Both st s l kw kt) (hg : Gr st st') : Both st' s l kw kt :=
  ⟨wat_gr h.w hg, ⟨h.t.nil, fun t e => by
    obtain ⟨h1, h2⟩ := h.t.room t e
    exact ⟨Nat.lt_of_lt_of_le h1 hg.1, by rw [hg.2 t h1]; exact h2⟩⟩, h.ts, h.tw⟩

/-- the writer is written, then the other one: both hold the same again -/
theorem both_step {stB stC stD : ASt} {s : Nat} {l n : List UInt8} {kw kt kw' kt' : Option Nat} (h : Both stB s l kw kt) (hw : Wr stB stC s kw kw' (l ++ n))
    (ho : Own' stD (l ++ n) kt') (hc : stC.ctr ≤ stD.ctr) (hf : ∀ j, j < stC.ctr → kt ≠ some j → stD.heap j = stC.heap j) (hk : ∀ j, kt' = some j → stC.ctr ≤ j ∨ kt = some j) : Both stD s (l ++ n) kw' kt' := by
  have hs := h.w.1
  have hsC : s < stC.ctr := Nat.lt_of_lt_of_le hs hw.fr.1
  have hkw : ∀ j, kw' = some j → kt ≠ some j := by
    intro j e e2
    rcases hw.own j e with h1 | h1
    · have := (h.t.room j e2).1; omega
    · exact h.tw j e2 h1
  refine ⟨?_, ho, fun e => ?_, fun j e e2 => ?_⟩
  · have hat := hw.at'
    refine ⟨Nat.lt_of_lt_of_le hat.1 hc, ?_⟩
    cases hk' : kw' with
    | none =>
      rw [hk'] at hat
      exact ⟨hat.2.1, by rw [hf s hsC h.ts]; exact hat.2.2⟩
    | some t =>
      rw [hk'] at hat
      have h1 : t < stC.ctr := hat.2.1
      exact ⟨Nat.lt_of_lt_of_le h1 hc, hat.2.2.1, by rw [hf s hsC h.ts]; exact hat.2.2.2.1, by rw [hf t h1 (hkw t hk')]; exact hat.2.2.2.2⟩
  · rcases hk s e with h1 | h1
    · omega
    · exact h.ts h1
  · rcases hk j e with h1 | h1
    · have : j < stC.ctr := by
        have hat := hw.at'
        rw [e2] at hat
        exact hat.2.1
      omega
    · exact hkw j e2 h1

/-- the other one's room, where the writer was written -/
theorem own_fr {stB stC : ASt} {s : Nat} {l l' : List UInt8} {kw kt kw' : Option Nat} (h : Both stB s l kw kt) (hw : Wr stB stC s kw kw' l') : Own' stC l kt :=
  ⟨h.t.nil, fun t e => by
    obtain ⟨h1, h2⟩ := h.t.room t e
    exact ⟨Nat.lt_of_lt_of_le h1 hw.fr.1, by rw [hw.fr.2 t h1 (fun e2 => h.ts (by rw [e, e2])) (h.tw t e)]; exact h2⟩⟩

end Go.Proofs.YtjpehemkgikkdaaV

/- WirePuts, walked in the second reading: a round. No condition. -/
namespace Go.Proofs.YtjpehemkgikkdaaV
open Go Go.RowKit Go.Proofs.YtjpehemkgikkdaaA
set_option linter.unusedVariables false
set_option linter.unusedSimpArgs false
set_option maxRecDepth 100000

theorem b_app {P : Program} {mt : Bool} {t tx ty : TypeId} {cs : Array Bool} {s x : AVal} {st : ASt} : builtinA P mt .append #[t, tx] ty cs [s, x] st = (appendA P mt t tx s x st).map .ofP := rfl

/-- what an item puts -/
def Item.out (it : Item) : List UInt8 := if it.is then it.raw else enc it.n

structure PtI (its : List Item) (i : Nat) (x : AVal) (s : Nat) (l : List UInt8) (kw kt : Option Nat) (ts : List AVal) (st : ASt) : Prop where
  both : Both st s l kw kt
  len : l.length ≤ 40 * i
  t3 : ts[3]? = some (.ptr s 0)
  t4 : ts[4]? = some (wval l kt)
  t12 : ts[12]? = some x
  t13 : ts[13]? = some (.lit (.int .i64 its.length))
  t14 : ts[14]? = some (.lit (.int .i64 i))
  tl : ts.length = 43

set_option maxHeartbeats 1000000 in
theorem pt_body (N n : Nat) (hN : 100 ≤ N) (dr : Array Oper → Bool) {its : List Item} {i : Nat} {x : AVal} {s : Nat} {l : List UInt8} {kw kt : Option Nat} {ts : List AVal} {st : ASt} (hx : Items x its) (hok : ∀ it ∈ its, it.ok) (hlen : its.length ≤ 40)
    (h : PtI its i x s l kw kt ts st) :
    (i = its.length → ∃ ts', aexec E 4 (run E N) dr n ptBody ts st = some (.exit 0, ts', st) ∧ ts'[3]? = some (.ptr s 0) ∧ ts'[4]? = some (wval l kt) ∧ ts'.length = 43) ∧
    (∀ hi : i < its.length, (40 < its[i].raw.length → ∃ ts' st', aexec E 4 (run E N) dr n ptBody ts st = some (.ret, ts', st') ∧ ts'[2]? = some (.lit (.bool true))) ∧
      (its[i].raw.length ≤ 40 → ∃ ts' st' kw' kt', aexec E 4 (run E N) dr n ptBody ts st = some (.normal, ts', st') ∧ PtI its (i + 1) x s (l ++ its[i].out) kw' kt' ts' st')) := by
  obtain ⟨hb, hl, h3, h4, h12, h13, h14, tl⟩ := h
  have hh : ∀ t, E.hint 4 t = false := fun _ => rfl
  refine ⟨fun hi => ?_, fun hi => ⟨fun hr => ?_, fun hr => ?_⟩⟩
  · have hd : decide ((i : Int) < its.length) = false := by rw [decide_eq_false_iff_not]; omega
    simp only [ptBody, code, Try.f4, Option.getD_some, Code.fst, Code.snd, Code.inn, aexec, aops, aop, Region.wanted, ayielded, aexecOp, aeval, aput, aseq, ablock, ahint, absOf, flat, nilCheckA, ANext.ofP, evals, evalPs, evalO, aresults, aresults1, aresult, aend, List.getElem?_set, List.length_set, Option.map_some, Option.bind_some, if_true, if_false, ↓reduceIte, Nat.reduceLT, Nat.reduceEqDiff, reduceCtorEq, Bool.false_eq_true, false_and, and_false, and_true, true_and, Nat.reduceAdd, Nat.reduceLeDiff, callA, List.getElem?_toArray, List.getElem?_cons_succ, List.getElem?_cons_zero, sb1, sb2, sb3, sb4, h3, h4, h12, h13, h14, tl, hh, b_lss, hd]
    exact ⟨_, rfl, by simp only [List.getElem?_set, List.length_set, Nat.reduceLT, Nat.reduceEqDiff, ↓reduceIte, reduceCtorEq, *], by simp only [List.getElem?_set, List.length_set, Nat.reduceLT, Nat.reduceEqDiff, ↓reduceIte, reduceCtorEq, *], by simp only [List.getElem?_set, List.length_set, Nat.reduceLT, Nat.reduceEqDiff, ↓reduceIte, reduceCtorEq, *]⟩
  · have hd : decide ((i : Int) < its.length) = true := by rw [decide_eq_true_eq]; omega
    have ok := hok _ (List.getElem_mem hi)
    obtain ⟨l0, l1, l2⟩ := ld_i (laidI_at st its[i])
    obtain ⟨f0, f1, f2⟩ := fld33 st.ctr
    have hg : decide (((its[i].raw.length : Nat) : Int) > 40) = true := by rw [decide_eq_true_eq]; omega
    simp only [ptBody, code, Try.f4, Option.getD_some, Code.fst, Code.snd, Code.inn, aexec, aops, aop, Region.wanted, ayielded, aexecOp, aeval, aput, aseq, ablock, ahint, absOf, flat, nilCheckA, ANext.ofP, evals, evalPs, evalO, aresults, aresults1, aresult, aend, List.getElem?_set, List.length_set, Option.map_some, Option.bind_some, if_true, if_false, ↓reduceIte, Nat.reduceLT, Nat.reduceEqDiff, reduceCtorEq, Bool.false_eq_true, false_and, and_false, and_true, true_and, Nat.reduceAdd, Nat.reduceLeDiff, callA, List.getElem?_toArray, List.getElem?_cons_succ, List.getElem?_cons_zero, sb1, sb2, sb3, sb4, h3, h4, h12, h13, h14, tl, hh, b_lss, hd, idx_items hx hi, load_item, alloc_i, store_i st its[i] ok.2, f1, l1, len_b ok.2, b_gtr, hg]
    exact ⟨_, _, rfl, by simp only [List.getElem?_set, List.length_set, Nat.reduceLT, Nat.reduceEqDiff, ↓reduceIte, reduceCtorEq, *]⟩
  · have hd : decide ((i : Int) < its.length) = true := by rw [decide_eq_true_eq]; omega
    have ok := hok _ (List.getElem_mem hi)
    obtain ⟨l0, l1, l2⟩ := ld_i (laidI_at st its[i])
    obtain ⟨f0, f1, f2⟩ := fld33 st.ctr
    have hg : decide (((its[i].raw.length : Nat) : Int) > 40) = false := by rw [decide_eq_false_iff_not]; omega
    have hw : IntKind.i64.wrap ((i : Int) + 1) = ((i + 1 : Nat) : Int) := by
      simp [IntKind.wrap, IntKind.bits, IntKind.signed]; omega
    have hbB := hb.gr (laidI_gr st its[i])
    have hs0 := hb.w.1
    have s6ne : st.ctr ≠ s := by omega
    have s6kw : kw ≠ some st.ctr := fun e => by have := hb.lt _ e; omega
    cases his : its[i].is with
    | true =>
      obtain ⟨stC, kw', n1, w1⟩ := raw_run hbB.w (src_b ok.2 _) (by omega)
      have lC : stC.heap st.ctr = some (.cells its[i].cs) := by
        rw [w1.fr.2 st.ctr (by rw [laidI_ctr]; omega) s6ne s6kw]; exact laidI_at st its[i]
      obtain ⟨m0, m1, m2⟩ := ld_i lC
      obtain ⟨kt', stD, e2, o2, c2, fr2, k2⟩ := app_room (own_fr hbB w1) (src_b ok.2 stC) (by omega)
      have hbD := both_step hbB w1 o2 c2 fr2 k2
      have c1 := n1 N (by omega)
      have hout : its[i].out = its[i].raw := by unfold Item.out; rw [his]; rfl
      rw [his] at l2
      rw [hout]
      simp only [ptBody, code, Try.f4, Option.getD_some, Code.fst, Code.snd, Code.inn, aexec, aops, aop, Region.wanted, ayielded, aexecOp, aeval, aput, aseq, ablock, ahint, absOf, flat, nilCheckA, ANext.ofP, evals, evalPs, evalO, aresults, aresults1, aresult, aend, List.getElem?_set, List.length_set, Option.map_some, Option.bind_some, if_true, if_false, ↓reduceIte, Nat.reduceLT, Nat.reduceEqDiff, reduceCtorEq, Bool.false_eq_true, false_and, and_false, and_true, true_and, Nat.reduceAdd, Nat.reduceLeDiff, callA, List.getElem?_toArray, List.getElem?_cons_succ, List.getElem?_cons_zero, sb1, sb2, sb3, sb4, h3, h4, h12, h13, h14, tl, hh, b_lss, hd, idx_items hx hi, load_item, alloc_i, store_i st its[i] ok.2, f0, f1, f2, l1, l2, len_b ok.2, b_gtr, hg, cf19, c1, m1, b_app, e2, b_add, hw]
      exact ⟨_, _, kw', kt', rfl, hbD, by simp only [List.length_append]; omega, by simp only [List.getElem?_set, List.length_set, Nat.reduceLT, Nat.reduceEqDiff, ↓reduceIte, reduceCtorEq, *], by simp only [List.getElem?_set, List.length_set, Nat.reduceLT, Nat.reduceEqDiff, ↓reduceIte, reduceCtorEq, *], by simp only [List.getElem?_set, List.length_set, Nat.reduceLT, Nat.reduceEqDiff, ↓reduceIte, reduceCtorEq, *], by simp only [List.getElem?_set, List.length_set, Nat.reduceLT, Nat.reduceEqDiff, ↓reduceIte, reduceCtorEq, *], by simp only [List.getElem?_set, List.length_set, Nat.reduceLT, Nat.reduceEqDiff, ↓reduceIte, reduceCtorEq, *], by simp only [List.getElem?_set, List.length_set, Nat.reduceLT, Nat.reduceEqDiff, ↓reduceIte, reduceCtorEq, *]⟩
    | false =>
      obtain ⟨stC, kw', n1, w1⟩ := num_run hbB.w ok.1 (by omega)
      have lC : stC.heap st.ctr = some (.cells its[i].cs) := by
        rw [w1.fr.2 st.ctr (by rw [laidI_ctr]; omega) s6ne s6kw]; exact laidI_at st its[i]
      obtain ⟨m0, m1, m2⟩ := ld_i lC
      obtain ⟨v2, stE, n2, b2, g2⟩ := refnum_run 9 its[i].n stC (lt_enc ok.1) ok.1 (Nat.le_refl _)
      have henc := enc_len its[i].n
      have hE : Own' stE l kt := ⟨hb.t.nil, fun t e => by
        obtain ⟨q1, q2⟩ := (own_fr hbB w1).room t e
        exact ⟨Nat.lt_of_lt_of_le q1 g2.1, by rw [g2.2 t q1]; exact q2⟩⟩
      obtain ⟨kt', stD, e2, o2, c2, fr2, k2⟩ := app_room hE (src_b b2 stE) (by have := encF_len 9 its[i].n; omega)
      have hbD := both_step hbB w1 o2 (Nat.le_trans g2.1 c2) (fun j hj hk => by rw [fr2 j (Nat.lt_of_lt_of_le hj g2.1) hk, g2.2 j hj]) (fun j e => by
        rcases k2 j e with h1 | h1
        · exact .inl (Nat.le_trans g2.1 h1)
        · exact .inr h1)
      have c1 := n1 N (by omega)
      have c3 := n2 N (by omega)
      have hout : its[i].out = enc its[i].n := by unfold Item.out; rw [his]; rfl
      rw [his] at l2
      rw [hout]
      simp only [ptBody, code, Try.f4, Option.getD_some, Code.fst, Code.snd, Code.inn, aexec, aops, aop, Region.wanted, ayielded, aexecOp, aeval, aput, aseq, ablock, ahint, absOf, flat, nilCheckA, ANext.ofP, evals, evalPs, evalO, aresults, aresults1, aresult, aend, List.getElem?_set, List.length_set, Option.map_some, Option.bind_some, if_true, if_false, ↓reduceIte, Nat.reduceLT, Nat.reduceEqDiff, reduceCtorEq, Bool.false_eq_true, false_and, and_false, and_true, true_and, Nat.reduceAdd, Nat.reduceLeDiff, callA, List.getElem?_toArray, List.getElem?_cons_succ, List.getElem?_cons_zero, sb1, sb2, sb3, sb4, h3, h4, h12, h13, h14, tl, hh, b_lss, hd, idx_items hx hi, load_item, alloc_i, store_i st its[i] ok.2, f0, f1, f2, l0, l1, l2, len_b ok.2, b_gtr, hg, cf16, cf20, c1, c3, m0, b_app, e2, b_add, hw]
      exact ⟨_, _, kw', kt', rfl, hbD, by simp only [List.length_append]; omega, by simp only [List.getElem?_set, List.length_set, Nat.reduceLT, Nat.reduceEqDiff, ↓reduceIte, reduceCtorEq, *], by simp only [List.getElem?_set, List.length_set, Nat.reduceLT, Nat.reduceEqDiff, ↓reduceIte, reduceCtorEq, *]; rfl, by simp only [List.getElem?_set, List.length_set, Nat.reduceLT, Nat.reduceEqDiff, ↓reduceIte, reduceCtorEq, *], by simp only [List.getElem?_set, List.length_set, Nat.reduceLT, Nat.reduceEqDiff, ↓reduceIte, reduceCtorEq, *], by simp only [List.getElem?_set, List.length_set, Nat.reduceLT, Nat.reduceEqDiff, ↓reduceIte, reduceCtorEq, *], by simp only [List.getElem?_set, List.length_set, Nat.reduceLT, Nat.reduceEqDiff, ↓reduceIte, reduceCtorEq, *]⟩

end Go.Proofs.YtjpehemkgikkdaaV
