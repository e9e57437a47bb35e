/- Of n the plan of 19998 + n % 5 nodes in one line is told by Check to be a plan, or too great from 20001 nodes on. No condition. -/
import Derived.Test.YtjpehemkgikkdaaPPlanBigx3
namespace Go.Proofs.Ytjpehemkgikkdaa.Pure
open Go.RowKit Go.Proofs.Ytjpehemkgikkdaa.PPlanBig Go.Proofs.YtjpehemkgikkdaaW.PrintWords Go.Proofs.YtjpehemkgikkdaaW.PrintLast

/-! #### what Check tells, on lists -/
def chk (n : Int) : List S54 → Int → Int → Int × Int
  | [], left, _ => if left > 0 then (n, 3) else (0, 0)
  | x :: xs, left, i =>
    if left = 0 then (i, 11)
    else if x.f0 < 0 ∨ x.f0 ≥ 6 ∨ (i = 0 ∧ x.f0 ≠ 0) then (i, 6)
    else if x.f1 / 64 > 0 ∨ x.f2 / 64 > 0 ∨ x.f3 < 0 ∨ x.f3 > 6 then (i, 6)
    else chk n xs (left + (x.f3 - 1)) (i + 1)

theorem rd_drop (p : List S54) (i : Nat) (h : i < p.length) : p.drop i = rd_T54 p i :: p.drop (i + 1) := by
  rw [List.drop_eq_getElem_cons h]
  simp [rd_T54, List.getD_eq_getElem?_getD, h]

theorem wrap_id {i : Int} (h0 : -9223372036854775808 ≤ i) (h1 : i < 9223372036854775808) : wrap64 i = i := by
  unfold wrap64; omega

theorem check_j1 (p : List S54) (k : Nat) (left x5 i : Int) (b : Bool) (x : S54) (h0 : 0 ≤ left) (h1 : left ≤ 200000) (hi0 : 0 ≤ i) (hi1 : i ≤ 30000) :
    plan_Plan_Check.j1 (k + 1) p left x5 p (p.length : Int) i b x.f0 x.f1 x.f2 x.f3 =
      if b = true then some (x5, 6) else if x.f1 / 64 > 0 ∨ x.f2 / 64 > 0 ∨ x.f3 < 0 ∨ x.f3 > 6 then some (x5, 6)
      else plan_Plan_Check.l0 k p (left + (x.f3 - 1)) p (p.length : Int) (i + 1) := by
  simp only [plan_Plan_Check.j1]
  by_cases hb : b = true
  · rw [if_pos hb, if_pos hb]
  rw [if_neg hb, if_neg hb]
  by_cases h2 : x.f1 / 64 > 0
  · rw [if_pos h2, if_pos (.inl h2)]
  rw [if_neg h2]
  by_cases h3 : x.f2 / 64 > 0
  · rw [if_pos h3, if_pos (.inr (.inl h3))]
  rw [if_neg h3]
  by_cases h4 : x.f3 < 0
  · rw [if_pos h4, if_pos (.inr (.inr (.inl h4)))]
  rw [if_neg h4]
  by_cases h5 : x.f3 > 6
  · rw [if_pos h5, if_pos (.inr (.inr (.inr h5)))]
  rw [if_neg h5, if_neg (by omega), wrap_id (i := x.f3 - 1) (by omega) (by omega), wrap_id (i := left + (x.f3 - 1)) (by omega) (by omega), wrap_id (i := i + 1) (by omega) (by omega)]

theorem check_l0 (p : List S54) (hp : p.length ≤ 20000) (d : Nat) : ∀ (k i : Nat) (left : Int), i + d = p.length → 2 * d < k → 0 ≤ left → left ≤ 1 + 6 * i →
    plan_Plan_Check.l0 k p left p (p.length : Int) (i : Int) = some (chk p.length (p.drop i) left i) := by
  induction d with
  | zero =>
    intro k i left hd hk h0 h1
    obtain ⟨k, rfl⟩ : ∃ m, k = m + 1 := ⟨k - 1, by omega⟩
    simp only [plan_Plan_Check.l0]
    rw [if_neg (by omega), List.drop_of_length_le (by omega)]
    simp only [chk]
    split <;> rfl
  | succ d ih =>
    intro k i left hd hk h0 h1
    obtain ⟨k, rfl⟩ : ∃ m, k = m + 2 := ⟨k - 2, by omega⟩
    have hlt : (i : Int) < (p.length : Int) := by omega
    rw [rd_drop p i (by omega)]
    simp only [plan_Plan_Check.l0]
    rw [if_pos hlt, if_pos (by omega), if_pos hlt]
    generalize rd_T54 p (i : Int) = x
    simp only [chk]
    by_cases hl : left = 0
    · rw [if_pos hl, if_pos hl]
    rw [if_neg hl, if_neg hl]
    have hj := fun b => check_j1 p k left i i b x h0 (by omega) (by omega) (by omega)
    have hn : ¬ (x.f1 / 64 > 0 ∨ x.f2 / 64 > 0 ∨ x.f3 < 0 ∨ x.f3 > 6) → plan_Plan_Check.l0 k p (left + (x.f3 - 1)) p (p.length : Int) ((i : Int) + 1) = some (chk p.length (p.drop (i + 1)) (left + (x.f3 - 1)) ((i : Int) + 1)) := by
      intro hg
      have := ih k (i + 1) (left + (x.f3 - 1)) (by omega) (by omega) (by omega) (by omega)
      simpa using this
    have fin : ∀ b : Bool, b = decide (x.f0 < 0 ∨ x.f0 ≥ 6 ∨ ((i : Int) = 0 ∧ x.f0 ≠ 0)) → plan_Plan_Check.j1 (k + 1) p left i p (p.length : Int) i b x.f0 x.f1 x.f2 x.f3 = some (if x.f0 < 0 ∨ x.f0 ≥ 6 ∨ ((i : Int) = 0 ∧ x.f0 ≠ 0) then ((i : Int), 6) else if x.f1 / 64 > 0 ∨ x.f2 / 64 > 0 ∨ x.f3 < 0 ∨ x.f3 > 6 then ((i : Int), 6) else chk p.length (p.drop (i + 1)) (left + (x.f3 - 1)) ((i : Int) + 1)) := by
      intro b hb
      rw [hj]
      by_cases hc : x.f0 < 0 ∨ x.f0 ≥ 6 ∨ ((i : Int) = 0 ∧ x.f0 ≠ 0)
      · rw [if_pos hc, if_pos (by rw [hb]; exact decide_eq_true hc)]
      rw [if_neg hc, if_neg (by rw [hb, decide_eq_false hc]; exact Bool.false_ne_true)]
      by_cases hg : x.f1 / 64 > 0 ∨ x.f2 / 64 > 0 ∨ x.f3 < 0 ∨ x.f3 > 6
      · rw [if_pos hg, if_pos hg]
      · rw [if_neg hg, if_neg hg]; exact hn hg
    by_cases c1 : x.f0 < 0
    · rw [if_pos c1]; exact fin true (by rw [decide_eq_true (.inl c1)])
    rw [if_neg c1]
    by_cases c2 : x.f0 ≥ 6
    · rw [if_pos c2]; exact fin true (by rw [decide_eq_true (.inr (.inl c2))])
    rw [if_neg c2]
    by_cases c3 : (i : Int) = 0
    · rw [if_pos c3]
      exact fin (x.f0 != 0) (by rw [Bool.eq_iff_iff, decide_eq_true_iff, bne_iff_ne]; omega)
    · rw [if_neg c3]
      exact fin false (by rw [decide_eq_false (by omega)])

theorem check_f (p : List S54) (hp : p.length ≤ 20000) (k : Nat) (hk : 2 * p.length < k) : plan_Plan_Check.f k p = some (chk p.length p 1 0) := by
  unfold plan_Plan_Check.f
  rw [if_neg (by omega)]
  have := check_l0 p hp p.length k 0 1 (by omega) hk (by omega) (by omega)
  simpa using this

theorem awake_f (k : Nat) (hk : 40 ≤ k) : braidworklaw17_Awake.f k = some true := at_rounds braidworklaw17_Awake.mono hk (by decide +kernel)


/-- a line of m nodes -/
def line (m j : Nat) : List S54 := List.replicate m ⟨0, 0, 0, 1⟩ ++ List.replicate j z54

theorem line_len (m j : Nat) : (line m j).length = m + j := by simp [line]

theorem line_set (m j : Nat) : (line m (j + 1)).set m ⟨0, 0, 0, 1⟩ = line (m + 1) j := by
  unfold line
  rw [List.set_append_right _ _ (by simp)]
  rw [List.replicate_succ' (n := m), List.append_assoc, List.replicate_succ (n := j)]
  simp

theorem line_rd (m j : Nat) : rd_T54 (line m (j + 1)) (m : Int) = z54 := by
  simp [rd_T54, line, List.getD_eq_getElem?_getD]

theorem chk_line (n : Int) (m : Nat) : ∀ (i : Int), 0 ≤ i → chk n (line m 1) 1 i = (0, 0) := by
  induction m with
  | zero => intro i _; simp [line, chk, z54]
  | succ m ih =>
    intro i hi
    have : line (m + 1) 1 = ⟨0, 0, 0, 1⟩ :: line m 1 := by simp [line, List.replicate_succ]
    rw [this]
    simp only [chk]
    rw [if_neg (by decide), if_neg (by simp), if_neg (by decide)]
    simpa using ih (i + 1) (by omega)

theorem big_l0 (many : Nat) (hm : 2 ≤ many) (hm2 : many ≤ 20002) (d : Nat) : ∀ (k i : Nat), i + d = many - 1 → 50000 + d < k →
    braidworklaw17_PlanBig.l0 k (many : Int) (line i (many - i)) ((many : Int) - 1) (i : Int) = some true := by
  induction d with
  | zero =>
    intro k i hd hk
    obtain ⟨k, rfl⟩ : ∃ m, k = m + 1 := ⟨k - 1, by omega⟩
    simp only [braidworklaw17_PlanBig.l0]
    rw [if_neg (by omega)]
    have hl : (line i (many - i)).length = many := by rw [line_len]; omega
    by_cases hb : (many : Int) > 20000
    · have : plan_Plan_Check.f k (line i (many - i)) = some (0, 2) := by
        unfold plan_Plan_Check.f
        rw [if_pos (by omega)]
      rw [this]
      simp only [Option.bind_some]
      rw [if_pos hb]
      rfl
    · rw [check_f _ (by omega) k (by omega)]
      simp only [Option.bind_some]
      rw [show many - i = 1 by omega, chk_line _ _ _ (Int.le_refl 0), if_neg hb]
      rfl
  | succ d ih =>
    intro k i hd hk
    obtain ⟨k, rfl⟩ : ∃ m, k = m + 1 := ⟨k - 1, by omega⟩
    simp only [braidworklaw17_PlanBig.l0]
    have hl : (line i (many - i)).length = many := by rw [line_len]; omega
    rw [if_pos (by omega), if_pos (by omega), if_pos (by omega), wrap_id (by omega) (by omega), show many - i = (many - (i + 1)) + 1 by omega, line_rd]
    have := ih k (i + 1) (by omega) (by omega)
    simp only [Int.toNat_natCast, z54]
    rw [line_set]
    simpa using this

theorem PlanBig : braidworklaw17_PlanBig.Pure := by
  intro a0 ha
  obtain ⟨h0, h1⟩ : 0 ≤ a0 ∧ a0 ≤ 255 := by
    simp [Lit.wf, IntKind.min, IntKind.max, IntKind.signed, IntKind.bits] at ha
    omega
  refine ⟨100000, ?_⟩
  unfold braidworklaw17_PlanBig.f
  rw [awake_f _ (by omega)]
  simp only [Option.bind_some, if_true]
  obtain ⟨r, hr⟩ : ∃ r : Nat, Int.tmod a0 5 = r ∧ r < 5 := ⟨(a0 % 5).toNat, by rw [Int.tmod_eq_emod_of_nonneg h0]; omega, by omega⟩
  obtain ⟨hr, hr5⟩ := hr
  rw [hr, wrap_id (i := (r : Int)) (by omega) (by omega), wrap_id (i := 19998 + (r : Int)) (by omega) (by omega), wrap_id (by omega) (by omega)]
  rw [show (19998 + (r : Int)) = ((19998 + r : Nat) : Int) by omega, if_pos (by omega), if_pos (by omega), if_pos (by omega), Int.toNat_natCast]
  rw [if_pos (by simp; omega)]
  have := big_l0 (19998 + r) (by omega) (by omega) (19998 + r - 1) 100000 0 (by omega) (by omega)
  have e : line 0 (19998 + r - 0) = List.replicate (19998 + r) z54 := by simp [line]
  rw [e] at this
  have e2 : ((List.replicate (19998 + r) z54).take (((19998 + r : Nat) : Int) - 1).toNat).length = 19998 + r - 1 := by
    rw [List.length_take, List.length_replicate]; omega
  rw [e2, show ((19998 + r - 1 : Nat) : Int) = ((19998 + r : Nat) : Int) - 1 by omega]
  exact this

end Go.Proofs.Ytjpehemkgikkdaa.Pure
