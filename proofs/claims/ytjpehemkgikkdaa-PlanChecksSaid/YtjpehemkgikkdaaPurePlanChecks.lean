/- Of any nodes, 100 at most, the program's Check and the law's tell the same; where they may be a plan, the first node with all behind it ends at the end. No condition. -/
import Derived.Test.YtjpehemkgikkdaaPPlanChecksx4
namespace Go.Proofs.Ytjpehemkgikkdaa.Pure
open Go.RowKit Go.Proofs.Ytjpehemkgikkdaa.PPlanChecks Go.Proofs.YtjpehemkgikkdaaW.PrintWords Go.Proofs.YtjpehemkgikkdaaW.PrintLast
set_option linter.unusedVariables false

/-! #### what Check tells, on lists -/
def chk (n : Int) : List S54 → Int → Int → Int × Int
  | [], left, _ => if left > 0 then (n, 3) else (0, 0)
  | x :: xs, left, i =>
    if left = 0 then (i, 11)
    else if x.f0 < 0 ∨ x.f0 ≥ 6 ∨ (i = 0 ∧ x.f0 ≠ 0) then (i, 6)
    else if x.f1 / 64 > 0 ∨ x.f2 / 64 > 0 ∨ x.f3 < 0 ∨ x.f3 > 6 then (i, 6)
    else chk n xs (left + (x.f3 - 1)) (i + 1)

theorem rd_drop (p : List S54) (i : Nat) (h : i < p.length) : p.drop i = rd_T54 p i :: p.drop (i + 1) := by
  rw [List.drop_eq_getElem_cons h]
  simp [rd_T54, List.getD_eq_getElem?_getD, h]

theorem wrap_id {i : Int} (h0 : -9223372036854775808 ≤ i) (h1 : i < 9223372036854775808) : wrap64 i = i := by
  unfold wrap64; omega

theorem check_j1 (p : List S54) (k : Nat) (left x5 i : Int) (b : Bool) (x : S54) (h0 : 0 ≤ left) (h1 : left ≤ 200000) (hi0 : 0 ≤ i) (hi1 : i ≤ 30000) :
    plan_Plan_Check.j1 (k + 1) p left x5 p (p.length : Int) i b x.f0 x.f1 x.f2 x.f3 =
      if b = true then some (x5, 6) else if x.f1 / 64 > 0 ∨ x.f2 / 64 > 0 ∨ x.f3 < 0 ∨ x.f3 > 6 then some (x5, 6)
      else plan_Plan_Check.l0 k p (left + (x.f3 - 1)) p (p.length : Int) (i + 1) := by
  simp only [plan_Plan_Check.j1]
  by_cases hb : b = true
  · rw [if_pos hb, if_pos hb]
  rw [if_neg hb, if_neg hb]
  by_cases h2 : x.f1 / 64 > 0
  · rw [if_pos h2, if_pos (.inl h2)]
  rw [if_neg h2]
  by_cases h3 : x.f2 / 64 > 0
  · rw [if_pos h3, if_pos (.inr (.inl h3))]
  rw [if_neg h3]
  by_cases h4 : x.f3 < 0
  · rw [if_pos h4, if_pos (.inr (.inr (.inl h4)))]
  rw [if_neg h4]
  by_cases h5 : x.f3 > 6
  · rw [if_pos h5, if_pos (.inr (.inr (.inr h5)))]
  rw [if_neg h5, if_neg (by omega), wrap_id (i := x.f3 - 1) (by omega) (by omega), wrap_id (i := left + (x.f3 - 1)) (by omega) (by omega), wrap_id (i := i + 1) (by omega) (by omega)]

theorem check_l0 (p : List S54) (hp : p.length ≤ 20000) (d : Nat) : ∀ (k i : Nat) (left : Int), i + d = p.length → 2 * d < k → 0 ≤ left → left ≤ 1 + 6 * i →
    plan_Plan_Check.l0 k p left p (p.length : Int) (i : Int) = some (chk p.length (p.drop i) left i) := by
  induction d with
  | zero =>
    intro k i left hd hk h0 h1
    obtain ⟨k, rfl⟩ : ∃ m, k = m + 1 := ⟨k - 1, by omega⟩
    simp only [plan_Plan_Check.l0]
    rw [if_neg (by omega), List.drop_of_length_le (by omega)]
    simp only [chk]
    split <;> rfl
  | succ d ih =>
    intro k i left hd hk h0 h1
    obtain ⟨k, rfl⟩ : ∃ m, k = m + 2 := ⟨k - 2, by omega⟩
    have hlt : (i : Int) < (p.length : Int) := by omega
    rw [rd_drop p i (by omega)]
    simp only [plan_Plan_Check.l0]
    rw [if_pos hlt, if_pos (by omega), if_pos hlt]
    generalize rd_T54 p (i : Int) = x
    simp only [chk]
    by_cases hl : left = 0
    · rw [if_pos hl, if_pos hl]
    rw [if_neg hl, if_neg hl]
    have hj := fun b => check_j1 p k left i i b x h0 (by omega) (by omega) (by omega)
    have hn : ¬ (x.f1 / 64 > 0 ∨ x.f2 / 64 > 0 ∨ x.f3 < 0 ∨ x.f3 > 6) → plan_Plan_Check.l0 k p (left + (x.f3 - 1)) p (p.length : Int) ((i : Int) + 1) = some (chk p.length (p.drop (i + 1)) (left + (x.f3 - 1)) ((i : Int) + 1)) := by
      intro hg
      have := ih k (i + 1) (left + (x.f3 - 1)) (by omega) (by omega) (by omega) (by omega)
      simpa using this
    have fin : ∀ b : Bool, b = decide (x.f0 < 0 ∨ x.f0 ≥ 6 ∨ ((i : Int) = 0 ∧ x.f0 ≠ 0)) → plan_Plan_Check.j1 (k + 1) p left i p (p.length : Int) i b x.f0 x.f1 x.f2 x.f3 = some (if x.f0 < 0 ∨ x.f0 ≥ 6 ∨ ((i : Int) = 0 ∧ x.f0 ≠ 0) then ((i : Int), 6) else if x.f1 / 64 > 0 ∨ x.f2 / 64 > 0 ∨ x.f3 < 0 ∨ x.f3 > 6 then ((i : Int), 6) else chk p.length (p.drop (i + 1)) (left + (x.f3 - 1)) ((i : Int) + 1)) := by
      intro b hb
      rw [hj]
      by_cases hc : x.f0 < 0 ∨ x.f0 ≥ 6 ∨ ((i : Int) = 0 ∧ x.f0 ≠ 0)
      · rw [if_pos hc, if_pos (by rw [hb]; exact decide_eq_true hc)]
      rw [if_neg hc, if_neg (by rw [hb, decide_eq_false hc]; exact Bool.false_ne_true)]
      by_cases hg : x.f1 / 64 > 0 ∨ x.f2 / 64 > 0 ∨ x.f3 < 0 ∨ x.f3 > 6
      · rw [if_pos hg, if_pos hg]
      · rw [if_neg hg, if_neg hg]; exact hn hg
    by_cases c1 : x.f0 < 0
    · rw [if_pos c1]; exact fin true (by rw [decide_eq_true (.inl c1)])
    rw [if_neg c1]
    by_cases c2 : x.f0 ≥ 6
    · rw [if_pos c2]; exact fin true (by rw [decide_eq_true (.inr (.inl c2))])
    rw [if_neg c2]
    by_cases c3 : (i : Int) = 0
    · rw [if_pos c3]
      exact fin (x.f0 != 0) (by rw [Bool.eq_iff_iff, decide_eq_true_iff, bne_iff_ne]; omega)
    · rw [if_neg c3]
      exact fin false (by rw [decide_eq_false (by omega)])

theorem check_f (p : List S54) (hp : p.length ≤ 20000) (k : Nat) (hk : 2 * p.length < k) : plan_Plan_Check.f k p = some (chk p.length p 1 0) := by
  unfold plan_Plan_Check.f
  rw [if_neg (by omega)]
  have := check_l0 p hp p.length k 0 1 (by omega) hk (by omega) (by omega)
  simpa using this

theorem awake_f (k : Nat) (hk : 40 ≤ k) : braidworklaw17_Awake.f k = some true := at_rounds braidworklaw17_Awake.mono hk (by decide +kernel)

theorem chk_zero (n : Int) : ∀ (l : List S54) (left i : Int), (chk n l left i).2 ≠ 0 ∨ chk n l left i = (0, 0)
  | [], left, i => by
    unfold chk
    split
    · exact .inl (by simp)
    · exact .inr rfl
  | x :: xs, left, i => by
    unfold chk
    split
    · exact .inl (by simp)
    split
    · exact .inl (by simp)
    split
    · exact .inl (by simp)
    · exact chk_zero n xs _ _

/-! #### where a node with all behind it ends -/
def okAt (p : List S54) (i : Nat) (m : Int) : Prop := chk p.length (p.drop i) m i = (0, 0)

theorem okAt_lt {p : List S54} {i : Nat} {m : Int} (hi : i ≤ p.length) (hm : 1 ≤ m) (h : okAt p i m) : i < p.length := by
  rcases Nat.lt_or_ge i p.length with hl | hl
  · exact hl
  · unfold okAt at h
    rw [List.drop_of_length_le hl, chk, if_pos (by omega)] at h
    simp at h

theorem okAt_step {p : List S54} {i : Nat} {m : Int} (hi : i < p.length) (hm : 1 ≤ m) (h : okAt p i m) :
    0 ≤ (rd_T54 p i).f3 ∧ (rd_T54 p i).f3 ≤ 6 ∧ okAt p (i + 1) (m + ((rd_T54 p i).f3 - 1)) := by
  unfold okAt at h
  rw [rd_drop p i hi, chk, if_neg (by omega)] at h
  split at h
  · simp at h
  split at h
  · simp at h
  rename_i _ h2
  refine ⟨by omega, by omega, ?_⟩
  unfold okAt
  simpa using h

theorem okAt_end {p : List S54} {i : Nat} (h : okAt p i 0) : i = p.length ∨ p.length < i ∨ i = 0 := by
  rcases Nat.lt_or_ge i p.length with hl | hl
  · unfold okAt at h
    rw [rd_drop p i hl, chk, if_pos rfl] at h
    simp at h
  · omega

theorem one_l0 (p : List S54) (hp : p.length ≤ 20000) (B : Nat)
    (ih : ∀ (i : Nat) (m : Int), B ≤ i → i ≤ p.length → 1 ≤ m → okAt p i m → ∃ j, i < j ∧ j ≤ p.length ∧ okAt p j (m - 1) ∧ ∀ k, 3 * (p.length - i) ≤ k → braidworklaw17_one.f k p i = some (j : Int))
    (c : Nat) : ∀ (i : Nat) (m kids : Int), B ≤ i → i ≤ p.length → 0 ≤ m → kids ≤ 6 → 0 ≤ kids - c → okAt p i (m + c) →
      ∃ j, i ≤ j ∧ j ≤ p.length ∧ okAt p j m ∧ ∀ k, 3 * (p.length - i) + 1 ≤ k → braidworklaw17_one.l0 k p i kids (kids - c) = some (j : Int) := by
  induction c with
  | zero =>
    intro i m kids _ h1 _ _ _ h
    refine ⟨i, Nat.le_refl _, h1, by simpa using h, fun k hk => ?_⟩
    obtain ⟨k, rfl⟩ : ∃ m, k = m + 1 := ⟨k - 1, by omega⟩
    simp only [braidworklaw17_one.l0]
    rw [if_neg (by omega)]
  | succ c ihc =>
    intro i m kids hB h1 hm hk6 hk0 h
    obtain ⟨j, hj1, hj2, hj3, hj4⟩ := ih i (m + ((c + 1 : Nat) : Int)) hB h1 (by omega) h
    obtain ⟨j', g1, g2, g3, g4⟩ := ihc j m kids (by omega) hj2 hm hk6 (by omega) (by have : m + ((c + 1 : Nat) : Int) - 1 = m + (c : Int) := by omega
                                                                                     rw [this] at hj3; exact hj3)
    refine ⟨j', by omega, g2, g3, fun k hk => ?_⟩
    have hi := okAt_lt h1 (by omega) h
    obtain ⟨k, rfl⟩ : ∃ m, k = m + 1 := ⟨k - 1, by omega⟩
    simp only [braidworklaw17_one.l0]
    rw [if_pos (by omega), hj4 k (by omega)]
    simp only [Option.bind_some]
    rw [if_neg (by omega), wrap_id (by omega) (by omega)]
    have := g4 k (by omega)
    rw [← this]
    congr 1
    omega

theorem one_ok (p : List S54) (hp : p.length ≤ 20000) (d : Nat) : ∀ (i : Nat) (m : Int), p.length - d ≤ i → i ≤ p.length → 1 ≤ m → okAt p i m →
    ∃ j, i < j ∧ j ≤ p.length ∧ okAt p j (m - 1) ∧ ∀ k, 3 * (p.length - i) ≤ k → braidworklaw17_one.f k p i = some (j : Int) := by
  induction d with
  | zero =>
    intro i m hd h1 hm h
    have := okAt_lt h1 hm h
    omega
  | succ d ih =>
    intro i m hd h1 hm h
    have hi := okAt_lt h1 hm h
    obtain ⟨k0, k6, hs⟩ := okAt_step hi hm h
    obtain ⟨j, g1, g2, g3, g4⟩ := one_l0 p hp (p.length - d) (fun i m a b c e => ih i m a b c e) (rd_T54 p i).f3.toNat (i + 1) (m - 1) (rd_T54 p i).f3 (by omega) (by omega) (by omega) k6 (by omega)
      (by have : m - 1 + (((rd_T54 p i).f3.toNat : Nat) : Int) = m + ((rd_T54 p i).f3 - 1) := by omega
          rw [this]; exact hs)
    refine ⟨j, by omega, g2, g3, fun k hk => ?_⟩
    obtain ⟨k, rfl⟩ : ∃ m, k = m + 2 := ⟨k - 2, by omega⟩
    simp only [braidworklaw17_one.f]
    rw [if_neg (by omega), decide_eq_false (by omega)]
    simp only [braidworklaw17_one.j0]
    rw [if_neg (by simp), if_pos (by omega), if_pos (by omega), wrap_id (by omega) (by omega)]
    have := g4 k (by omega)
    rw [← this]
    have e : (rd_T54 p i).f3 - (((rd_T54 p i).f3.toNat : Nat) : Int) = 0 := by omega
    rw [e]
    rfl

theorem one_f (p : List S54) (hp : p.length ≤ 20000) (h : chk p.length p 1 0 = (0, 0)) (k : Nat) (hk : 3 * p.length ≤ k) : braidworklaw17_one.f k p 0 = some (p.length : Int) := by
  obtain ⟨j, h1, h2, h3, h4⟩ := one_ok p hp p.length 0 1 (by omega) (by omega) (by omega) (by unfold okAt; simpa using h)
  have := h4 k (by omega)
  rcases okAt_end h3 with e | e | e
  · rw [e] at this; exact this
  · omega
  · omega

/-! #### the law's own Check -/
theorem lawcheck_l0 (p : List S54) (hp : p.length ≤ 20000) (d : Nat) : ∀ (k i : Nat) (left : Int), i + d = p.length → d < k → 0 ≤ left → left ≤ 1 + 6 * i →
    braidworklaw17_Check.l0 k p left p (p.length : Int) (i : Int) = some (chk p.length (p.drop i) left i) := by
  induction d with
  | zero =>
    intro k i left hd hk h0 h1
    obtain ⟨k, rfl⟩ : ∃ m, k = m + 1 := ⟨k - 1, by omega⟩
    simp only [braidworklaw17_Check.l0]
    rw [if_neg (by omega), List.drop_of_length_le (by omega)]
    simp only [chk]
    split <;> rfl
  | succ d ih =>
    intro k i left hd hk h0 h1
    obtain ⟨k, rfl⟩ : ∃ m, k = m + 1 := ⟨k - 1, by omega⟩
    have hlt : (i : Int) < (p.length : Int) := by omega
    rw [rd_drop p i (by omega)]
    simp only [braidworklaw17_Check.l0]
    rw [if_pos hlt, if_pos (by omega), if_pos hlt]
    generalize rd_T54 p (i : Int) = x
    simp only [chk]
    by_cases hl : left = 0
    · rw [if_pos hl, if_pos hl]
    rw [if_neg hl, if_neg hl]
    by_cases c1 : x.f0 < 0
    · rw [if_pos c1, if_pos (.inl c1)]
    rw [if_neg c1]
    by_cases c2 : x.f0 > 5
    · rw [if_pos c2, if_pos (by omega)]
    rw [if_neg c2]
    have tail : (if x.f1 > 63 then some ((i : Int), (6 : Int)) else if x.f2 > 63 then some ((i : Int), 6) else if x.f3 < 0 then some ((i : Int), 6) else if x.f3 > 6 then some ((i : Int), 6) else braidworklaw17_Check.l0 k p (wrap64 (left + (wrap64 (x.f3 - 1)))) p (p.length : Int) (wrap64 ((i : Int) + 1)))
        = some (if x.f1 / 64 > 0 ∨ x.f2 / 64 > 0 ∨ x.f3 < 0 ∨ x.f3 > 6 then ((i : Int), 6) else chk p.length (p.drop (i + 1)) (left + (x.f3 - 1)) ((i : Int) + 1)) := by
      by_cases b1 : x.f1 > 63
      · rw [if_pos b1, if_pos (by omega)]
      rw [if_neg b1]
      by_cases b2 : x.f2 > 63
      · rw [if_pos b2, if_pos (by omega)]
      rw [if_neg b2]
      by_cases b3 : x.f3 < 0
      · rw [if_pos b3, if_pos (by omega)]
      rw [if_neg b3]
      by_cases b4 : x.f3 > 6
      · rw [if_pos b4, if_pos (by omega)]
      rw [if_neg b4, if_neg (by omega), wrap_id (i := x.f3 - 1) (by omega) (by omega), wrap_id (i := left + (x.f3 - 1)) (by omega) (by omega), wrap_id (by omega) (by omega)]
      have := ih k (i + 1) (left + (x.f3 - 1)) (by omega) (by omega) (by omega) (by omega)
      simpa using this
    by_cases c3 : (i : Int) = 0
    · rw [if_pos c3]
      by_cases c4 : x.f0 > 0
      · rw [if_pos c4, if_pos (by omega)]
      · rw [if_neg c4, if_neg (c := x.f0 < 0 ∨ x.f0 ≥ 6 ∨ ((i : Int) = 0 ∧ x.f0 ≠ 0)) (by omega)]; exact tail
    · rw [if_neg c3, if_neg (c := x.f0 < 0 ∨ x.f0 ≥ 6 ∨ ((i : Int) = 0 ∧ x.f0 ≠ 0)) (by omega)]; exact tail

theorem lawcheck_f (p : List S54) (hp : p.length ≤ 20000) (k : Nat) (hk : p.length < k) : braidworklaw17_Check.f k p = some (chk p.length p 1 0) := by
  unfold braidworklaw17_Check.f
  have := lawcheck_l0 p hp p.length k 0 1 (by omega) hk (by omega) (by omega)
  simpa using this


def mkN (x : S80) : S54 := ⟨wrap64 x.f0, IntKind.u64.wrap (wrap64 x.f1), IntKind.u64.wrap (wrap64 x.f2), wrap64 x.f3⟩

theorem make_l0 (l : List S80) (hl : l.length ≤ 100) (d : Nat) : ∀ (k i : Nat) (out : List S54), i + d = l.length → d < k → out.length = i →
    braidworklaw17_Make.l0 k out l (l.length : Int) (i : Int) = some (out ++ (l.drop i).map mkN) := by
  induction d with
  | zero =>
    intro k i out hd hk ho
    obtain ⟨k, rfl⟩ : ∃ m, k = m + 1 := ⟨k - 1, by omega⟩
    simp only [braidworklaw17_Make.l0]
    rw [if_neg (by omega), List.drop_of_length_le (by omega)]
    simp
  | succ d ih =>
    intro k i out hd hk ho
    obtain ⟨k, rfl⟩ : ∃ m, k = m + 1 := ⟨k - 1, by omega⟩
    have hlt : i < l.length := by omega
    simp only [braidworklaw17_Make.l0]
    rw [if_pos (by omega), if_pos (by omega), if_pos (by omega), if_pos (by omega), wrap_id (i := (i : Int) + 1) (by omega) (by omega)]
    have := ih k (i + 1) (out ++ [mkN (rd_T80 l i)]) (by omega) (by omega) (by simp [ho])
    have e : l.drop i = rd_T80 l i :: l.drop (i + 1) := by
      rw [List.drop_eq_getElem_cons hlt]
      simp [rd_T80, List.getD_eq_getElem?_getD, hlt]
    rw [e, List.map_cons, show out ++ mkN (rd_T80 l i) :: (l.drop (i + 1)).map mkN = (out ++ [mkN (rd_T80 l i)]) ++ (l.drop (i + 1)).map mkN by simp]
    exact this

theorem make_f (l : List S80) (hl : l.length ≤ 100) (k : Nat) (hk : l.length < k) : braidworklaw17_Make.f k l = some (l.map mkN) := by
  unfold braidworklaw17_Make.f
  have := make_l0 l hl l.length k 0 [] (by omega) hk rfl
  simpa using this

theorem PlanChecks (l : List S80) : braidworklaw17_PlanChecks.f 1000 l = some true := by
  unfold braidworklaw17_PlanChecks.f
  rw [awake_f _ (by omega)]
  simp only [Option.bind_some, if_true]
  by_cases hl : (l.length : Int) > 100
  · rw [if_pos hl]
  have hm : (l.map mkN).length = l.length := by simp
  rw [if_neg hl, make_f l (by omega) _ (by omega)]
  simp only [Option.bind_some]
  rw [check_f _ (by omega) _ (by omega)]
  simp only [Option.bind_some]
  rw [lawcheck_f _ (by omega) _ (by omega)]
  simp only [Option.bind_some, if_true]
  generalize hp : l.map mkN = p at *
  by_cases h2 : (chk p.length p 1 0).2 = 0
  · rw [if_pos h2]
    have h1 : chk p.length p 1 0 = (0, 0) := by
      rcases chk_zero p.length p 1 0 with h | h
      · exact absurd h2 h
      · exact h
    rw [one_f p (by omega) h1 _ (by omega)]
    simp
  · rw [if_neg h2]

end Go.Proofs.Ytjpehemkgikkdaa.Pure
