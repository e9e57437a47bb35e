/- Whole numbers' words, complex ones of two, plainly. No condition. -/
import Derived.Test.YtpgcbmmifmnfpaaDoorFM
import Derived.Test.YtpgcbmmifmnfpaaDoorEA
namespace Go.Proofs.YtpgcbmmifmnfpaaDoorV
open Go Go.RowKit Go.Proofs.YtpgcbmmifmnfpaaDoorA
set_option linter.unusedVariables false
set_option linter.unusedSimpArgs false
set_option maxRecDepth 100000

theorem cmp_le (a b : Int) : ((some (compare a b) == some Ordering.lt) || (some (compare a b) == some Ordering.eq)) = decide (a ≤ b) := by
  rcases Int.lt_trichotomy a b with h | h | h
  · rw [(Int.compare_eq_lt).2 h]; simp; omega
  · rw [(Int.compare_eq_eq).2 h]; simp; omega
  · rw [(Int.compare_eq_gt).2 h]; simp; omega
theorem cmp_lt (a b : Int) : (some (compare a b) == some Ordering.lt) = decide (a < b) := by
  rcases Int.lt_trichotomy a b with h | h | h
  · rw [(Int.compare_eq_lt).2 h]; simp; omega
  · rw [(Int.compare_eq_eq).2 h]; simp; omega
  · rw [(Int.compare_eq_gt).2 h]; simp; omega
theorem cmp_eq (a b : Int) : (some (compare a b) == some Ordering.eq) = decide (a = b) := by
  rcases Int.lt_trichotomy a b with h | h | h
  · rw [(Int.compare_eq_lt).2 h]; simp; omega
  · rw [(Int.compare_eq_eq).2 h]; simp; omega
  · rw [(Int.compare_eq_gt).2 h]; simp; omega
/-- a whole number's word; a complex number of two -/
def fz (z : Int) : Nat := wb (decide (z < 0)) z.natAbs
def cz (a b : Int) : AVal := .lit (.complex .f64 (fz a) (fz b))
def FitN (n : Nat) : Prop := n ≤ 1048576
theorem sg_fz (z : Int) : sg (decide (z < 0)) z.natAbs = z := by
  unfold sg
  by_cases h : z < 0
  · rw [decide_eq_true h, if_pos rfl]; omega
  · rw [decide_eq_false h]; simp only [Bool.false_eq_true, if_false]; omega
theorem sg_any (b : Bool) (z : Int) : sg (if z = 0 then b else decide (z < 0)) z.natAbs = z := by
  by_cases h : z = 0
  · subst h; unfold sg; cases b <;> rfl
  · rw [if_neg h]; exact sg_fz z
theorem sg_abs (s : Bool) (n : Nat) : (sg s n).natAbs = n := by unfold sg; cases s <;> simp
theorem sg_not (s : Bool) (n : Nat) : sg (!s) n = -sg s n := by unfold sg; cases s <;> simp
theorem sg_mul (a c : Int) : sg (decide (a < 0) ^^ decide (c < 0)) (a.natAbs * c.natAbs) = a * c := by
  have ha := sg_fz a
  have hc := sg_fz c
  generalize decide (a < 0) = s at *
  generalize decide (c < 0) = t at *
  generalize a.natAbs = n at *
  generalize c.natAbs = m at *
  subst ha hc
  unfold sg
  cases s <;> cases t <;> simp [Int.neg_mul, Int.mul_neg]
/-- a sum, by its words -/
theorem add_z {s t : Bool} {n m : Nat} (hn : n < 2 ^ 53) (hm : m < 2 ^ 53) (h : (sg s n + sg t m).natAbs < 2 ^ 53) : ∃ s', Ieee.double.add (wb s n) (wb t m) = some (wb s' (sg s n + sg t m).natAbs) ∧ sg s' (sg s n + sg t m).natAbs = sg s n + sg t m :=
  ⟨_, add_w (wb_rd s hn) (wb_rd t hm) h, sg_any _ _⟩
theorem sub_z {s t : Bool} {n m : Nat} (hn : n < 2 ^ 53) (hm : m < 2 ^ 53) (h : (sg s n - sg t m).natAbs < 2 ^ 53) : ∃ s', Ieee.double.sub (wb s n) (wb t m) = some (wb s' (sg s n - sg t m).natAbs) ∧ sg s' (sg s n - sg t m).natAbs = sg s n - sg t m := by
  have e : sg s n - sg t m = sg s n + sg (!t) m := by rw [sg_not]; omega
  rw [e] at h ⊢
  exact ⟨_, sub_w (wb_rd s hn) (wb_rd t hm) h, sg_any _ _⟩
theorem add_fz {a c : Int} (ha : a.natAbs < 2 ^ 52) (hc : c.natAbs < 2 ^ 52) : Ieee.double.add (fz a) (fz c) = some (fz (a + c)) := by
  have h := add_w (wb_rd (decide (a < 0)) (by omega : a.natAbs < 2 ^ 53)) (wb_rd (decide (c < 0)) (by omega : c.natAbs < 2 ^ 53)) (by rw [sg_fz, sg_fz]; omega)
  rw [sg_fz, sg_fz] at h
  unfold fz
  rw [h]
  congr 2
  by_cases hz : a + c = 0
  · rw [if_pos hz, hz]
    have : ¬ (a < 0 ∧ c < 0) := by omega
    by_cases h1 : a < 0
    · rw [decide_eq_false (by omega : ¬ c < 0)]; simp
    · rw [decide_eq_false h1]; simp
  · rw [if_neg hz]
theorem zero_add (s : Bool) {n : Nat} (h : n < 2 ^ 53) : Ieee.double.add (wb s n) 0 = some (fz (sg s n)) := by
  have h1 := add_w (wb_rd s h) (wb_rd false (n := 0) (by decide)) (by unfold sg; cases s <;> simp <;> omega)
  have e0 : sg false 0 = 0 := rfl
  rw [e0, Int.add_zero] at h1
  show Ieee.double.add (wb s n) (wb false 0) = _
  rw [h1]
  unfold fz
  congr 2
  by_cases hz : sg s n = 0
  · rw [if_pos hz, hz]; simp
  · rw [if_neg hz]

/-- small enough -/
def Sm (a b : Int) : Prop := a.natAbs ≤ 1048576 ∧ b.natAbs ≤ 1048576
theorem natAbs_mul_le {a c : Int} (ha : a.natAbs ≤ 1048576) (hc : c.natAbs ≤ 1048576) : a.natAbs * c.natAbs ≤ 1099511627776 := by
  calc a.natAbs * c.natAbs ≤ 1048576 * 1048576 := Nat.mul_le_mul ha hc
    _ = 1099511627776 := by decide
theorem order_fz {a c : Int} (ha : a.natAbs < 2 ^ 53) (hc : c.natAbs < 2 ^ 53) : Ieee.double.order (fz a) (fz c) = some (compare a c) := by
  have := order_w (wb_rd (decide (a < 0)) ha) (wb_rd (decide (c < 0)) hc)
  rwa [sg_fz, sg_fz] at this
theorem ceq_cz {a b c d : Int} (h : a.natAbs < 2 ^ 53 ∧ b.natAbs < 2 ^ 53) (h2 : c.natAbs < 2 ^ 53 ∧ d.natAbs < 2 ^ 53) (t : TypeId) (xo yo : Operand) : binA E.P .eql t xo yo (cz a b) (cz c d) = some (.lit (.bool (decide (a = c ∧ b = d)))) := by
  unfold cz
  rw [b_ceql, order_fz h.1 h2.1, order_fz h.2 h2.2, cmp_eq, cmp_eq]
  simp
end Go.Proofs.YtpgcbmmifmnfpaaDoorV
