/- WireApart, walked in the second reading. No condition but Awake's. -/
import Derived.Test.YtjpehemkgikkdaaW0
namespace Go.Proofs.YtjpehemkgikkdaaV
open Go Go.RowKit Go.Proofs.YtjpehemkgikkdaaA
set_option linter.unusedVariables false
set_option linter.unusedSimpArgs false
set_option maxRecDepth 100000

theorem cf15 (a : List AVal) (st : ASt) : callFuncA E.P 15 a st = some (.enter 15 a st) := rfl
theorem u4 : E.P.underlying 4 = some .bool := rfl

theorem apart_plain {a b c d : Nat} (ha : a < 2 ^ 64) (hb : b < 2 ^ 64) (hc : c < 2 ^ 64) (hd : d < 2 ^ 64) : ([] ++ enc a ++ enc b == [] ++ enc c ++ enc d) = (decide (a = c) && decide (b = d)) := by
  simp only [List.nil_append]
  rw [Bool.eq_iff_iff]
  simp only [beq_iff_eq, Bool.and_eq_true, decide_eq_true_eq]
  constructor
  · intro h
    obtain ⟨e1, e2⟩ := enc_inj ha hc h
    have := enc_inj (r := []) (r' := []) hb hd (by simpa using e2)
    exact ⟨e1, this.1⟩
  · rintro ⟨rfl, rfl⟩; rfl

theorem apart_run {s0 : ASt} (hA : AwakeIs s0) {a b c d : Nat} (ha : a < 2 ^ 64) (hb : b < 2 ^ 64) (hc : c < 2 ^ 64) (hd : d < 2 ^ 64) :
    ∃ n st', run E n 3 [.lit (.int .u64 a), .lit (.int .u64 b), .lit (.int .u64 c), .lit (.int .u64 d)] st0 = some (.returned (.lit (.bool true)), st') := by
  obtain ⟨d0, hA⟩ := hA
  obtain ⟨s3, k3, n1, w1⟩ := num_run (wat_gr (wat_init s0) (Gr.new _ (.cells [.nilSlice]))) ha (by simp)
  obtain ⟨s4, k4, n2, w2⟩ := num_run w1.at' hb (by have := enc_len a; simp; omega)
  have w12 := w1.trans w2
  have q0 : WAt s4 (s0.new (.cells [.nilSlice])).ctr [] none := wat_fr (wat_init (s0.new (.cells [.nilSlice]))) w12.fr (by simp [ASt.new]) (by simp) (by simp)
  obtain ⟨s5, k5, n3, w3⟩ := num_run q0 hc (by simp)
  obtain ⟨s6, k6, n4, w4⟩ := num_run w3.at' hd (by have := enc_len c; simp; omega)
  have w34 := w3.trans w4
  have p6 : WAt s6 s0.ctr _ k4 := wat_fr w12.at' w34.fr (by simp [ASt.new]) (by simp) (by
    intro j hj
    have := w12.own j hj
    simp only [ASt.new, reduceCtorEq, or_false] at this
    simp [ASt.new]; omega)
  obtain ⟨v1, s7, n5, b1, g1⟩ := bytes_run p6 (by have := enc_len a; have := enc_len b; simp; omega)
  obtain ⟨v2, s8, n6, b2, g2⟩ := bytes_run (wat_gr w34.at' g1) (by have := enc_len c; have := enc_len d; simp; omega)
  have n7 := eq_run s8 b1 b2 (by have := enc_len a; have := enc_len b; simp; omega)
  refine ⟨max d0 100 + 1, s8, ?_⟩
  have hN : d0 ≤ max d0 100 := Nat.le_max_left _ _
  have hN2 : 100 ≤ max d0 100 := Nat.le_max_right _ _
  generalize max d0 100 = N at hN hN2
  have c0 := hA N hN
  have c1 := n1 N (by omega)
  have c2 := n2 N (by omega)
  have c3 := n3 N (by omega)
  have c4 := n4 N (by omega)
  have c5 := n5 N (by omega)
  have c6 := n6 N (by omega)
  have c7 := n7 N (by have := enc_len a; have := enc_len b; simp; omega)
  rw [apart_plain ha hb hc hd] at c7
  rw [run_code (fn := Try.f3) rfl rfl]
  have hh : ∀ t, E.hint 3 t = false := fun _ => rfl
  have hi : ∀ x y : Nat, (((x : Nat) : Int) == ((y : Nat) : Int)) = decide (x = y) := by
    intro x y
    by_cases h : x = y
    · simp [h]
    · have h2 : (x : Int) ≠ (y : Int) := by omega
      rw [beq_eq_false_iff_ne.2 h2]; simp [h]
  obtain ⟨ts, et, h0, h1, h2, h3, hl⟩ : ∃ ts, ([AVal.lit (.int .u64 a), .lit (.int .u64 b), .lit (.int .u64 c), .lit (.int .u64 d)] ++ List.replicate (Try.f3.ntmps - [AVal.lit (.int .u64 a), .lit (.int .u64 b), .lit (.int .u64 c), .lit (.int .u64 d)].length) .undef) = ts ∧ ts[0]? = some (.lit (.int .u64 a)) ∧ ts[1]? = some (.lit (.int .u64 b)) ∧ ts[2]? = some (.lit (.int .u64 c)) ∧ ts[3]? = some (.lit (.int .u64 d)) ∧ ts.length = 33 := ⟨_, rfl, rfl, rfl, rfl, rfl, rfl⟩
  rw [et]
  have hnot : ∀ b, pureV E.P (Op.unary .not (.bool b)) = some (.lit (.bool (!b))) := fun _ => rfl
  cases e1 : decide (a = c) <;> cases e2 : decide (b = d) <;> rw [e1, e2] at c7 <;>
  simp only [code, Try.f3, Option.getD_some, Code.fst, Code.snd, Code.inn, aexec, aops, aop, Region.wanted, ayielded, aexecOp, aeval, aput, aseq, ablock, ahint, absOf, flat, nilCheckA, ANext.ofP, evals, evalPs, evalO, aresults, aresults1, aresult, aend, List.getElem?_set, List.length_set, Option.map_some, Option.bind_some, if_true, if_false, ↓reduceIte, Nat.reduceLT, Nat.reduceEqDiff, reduceCtorEq, Bool.false_eq_true, false_and, and_false, and_true, true_and, Nat.reduceAdd, Nat.reduceLeDiff, callA, List.getElem?_toArray, List.getElem?_cons_succ, List.getElem?_cons_zero, sb1, sb2, sb3, sb4, hh, cf15, cf16, cf17, cf18, h0, h1, h2, h3, hl, c0, YtjpehemkgikkdaaA.valOf, hnot, Bool.not_true, alloc_w, c1, c2, c3, c4, c5, c6, c7, b_eql, hi, e1, e2, Bool.and_true, Bool.and_false, Bool.false_and, b_eqb u4, beq_self_eq_true]
  all_goals rfl

theorem mixed : E.P.follows .mixedOrders = true := by kernel_rfl

theorem apart_calls {a b c d : Nat} (ha : a < 2 ^ 64) (hb : b < 2 ^ 64) (hc : c < 2 ^ 64) (hd : d < 2 ^ 64) (W : World) :
    Calls Try.prog 3 #[.int .u64 a, .int .u64 b, .int .u64 c, .int .u64 d] W (fun e w' => e = .returned (.bool true) ∧ Below W.heap.size W w') := by
  obtain ⟨s0, hA⟩ := awake
  obtain ⟨n, st', h⟩ := apart_run hA ha hb hc hd
  refine law_of_run mixed (fun _ => rfl) h (W := W) ⟨rfl, fun j x u hj hu => ?_⟩
  match j with
  | 0 => cases hj; cases hu; exact Rep.lit rfl
  | 1 => cases hj; cases hu; exact Rep.lit rfl
  | 2 => cases hj; cases hu; exact Rep.lit rfl
  | 3 => cases hj; cases hu; exact Rep.lit rfl
  | j + 4 => simp at hj

end Go.Proofs.YtjpehemkgikkdaaV
