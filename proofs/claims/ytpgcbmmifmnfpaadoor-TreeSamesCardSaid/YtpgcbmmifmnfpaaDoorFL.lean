/- Whole numbers as floats: what is read, written, added, multiplied, told apart. No condition. -/
import Derived.Test.YtpgcbmmifmnfpaaDoorAF
namespace Go.Proofs.YtpgcbmmifmnfpaaDoorA
open Go Go.RowKit
set_option linter.unusedVariables false
set_option linter.unusedSimpArgs false

/-- a whole number's word, with a sign -/
def wb (s : Bool) (n : Nat) : Nat := if n = 0 then (if s then 2 ^ 63 else 0) else (if s then 2 ^ 63 else 0) + ((1022 + n.log2) * 2 ^ 52 + n * 2 ^ (52 - n.log2))
/-- a whole number with a sign -/
def sg (s : Bool) (n : Nat) : Int := if s then -(n : Int) else n
/-- a word that is read as this whole number -/
def Rd (b : Nat) (s : Bool) (n : Nat) : Prop := ∃ q : Nat, Ieee.double.read b = .number s (n * 2 ^ q) (-(q : Int))

theorem d_word (s : Bool) (r : Nat) : Ieee.double.word s r = (if s then 2 ^ 63 else 0) + r := by
  unfold Ieee.Format.word
  cases s
  · simp
  · rfl
theorem d_sw : Ieee.double.signWeight = 2 ^ 63 := rfl
theorem d_bin : Ieee.double.binade = 2 ^ 52 := rfl
theorem d_inf : Ieee.double.infRung = 2047 * 2 ^ 52 := rfl
theorem d_lp : Ieee.double.leastPlace = -1074 := rfl
theorem d_fb : Ieee.double.fractionBits = 52 := rfl

theorem log2_lt53 {n : Nat} (h : n < 2 ^ 53) (h0 : n ≠ 0) : n.log2 ≤ 52 := by
  have := (Nat.log2_lt h0).2 h
  omega
theorem kept_ge {n : Nat} (h : n < 2 ^ 53) (h0 : n ≠ 0) : 2 ^ 52 ≤ n * 2 ^ (52 - n.log2) ∧ n * 2 ^ (52 - n.log2) < 2 ^ 53 := by
  have h1 := log2_lt53 h h0
  have h2 : 2 ^ n.log2 ≤ n := Nat.log2_self_le h0
  have h3 : n < 2 ^ (n.log2 + 1) := Nat.lt_log2_self
  have e1 : 2 ^ n.log2 * 2 ^ (52 - n.log2) = 2 ^ 52 := by rw [← Nat.pow_add, show n.log2 + (52 - n.log2) = 52 by omega]
  have e2 : 2 ^ (n.log2 + 1) * 2 ^ (52 - n.log2) = 2 ^ 53 := by rw [← Nat.pow_add, show n.log2 + 1 + (52 - n.log2) = 53 by omega]
  refine ⟨?_, ?_⟩
  · rw [← e1]; exact Nat.mul_le_mul_right _ h2
  · rw [← e2]; exact Nat.mul_lt_mul_of_pos_right h3 (Nat.two_pow_pos _)

theorem wb_rd (s : Bool) {n : Nat} (h : n < 2 ^ 53) : Rd (wb s n) s n := by
  by_cases h0 : n = 0
  · subst h0
    obtain ⟨q, hq⟩ : ∃ q : Nat, q = 1074 := ⟨_, rfl⟩
    refine ⟨q, ?_⟩
    rw [Nat.zero_mul, hq]
    cases s <;> rfl
  · obtain ⟨k1, k2⟩ := kept_ge h h0
    have hl := log2_lt53 h h0
    refine ⟨52 - n.log2, ?_⟩
    unfold wb
    rw [if_neg h0]
    generalize hk : n * 2 ^ (52 - n.log2) = kept at *
    have hr : (1022 + n.log2) * 2 ^ 52 + kept < 2 ^ 63 := by omega
    have hneg : (((if s then 2 ^ 63 else 0) + ((1022 + n.log2) * 2 ^ 52 + kept)) / 2 ^ 63 % 2 == 1) = s := by
      cases s
      · simp only [Bool.false_eq_true, if_false, Nat.zero_add]
        rw [Nat.div_eq_of_lt hr]; rfl
      · simp only [if_true]
        rw [show (2 ^ 63 + ((1022 + n.log2) * 2 ^ 52 + kept)) / 2 ^ 63 = 1 by omega]; rfl
    have hrung : ((if s then 2 ^ 63 else 0) + ((1022 + n.log2) * 2 ^ 52 + kept)) % 2 ^ 63 = (1022 + n.log2) * 2 ^ 52 + kept := by
      cases s
      · simp only [Bool.false_eq_true, if_false, Nat.zero_add]
        exact Nat.mod_eq_of_lt hr
      · simp only [if_true]; omega
    unfold Ieee.Format.read
    simp only [d_sw, d_bin, d_inf, d_lp, hneg, hrung]
    rw [if_neg (by omega), if_pos (by omega)]
    have e1 : ((1022 + n.log2) * 2 ^ 52 + kept) % 2 ^ 52 = kept - 2 ^ 52 := by omega
    have e2 : ((1022 + n.log2) * 2 ^ 52 + kept) / 2 ^ 52 = 1023 + n.log2 := by omega
    rw [e1, e2, show 2 ^ 52 + (kept - 2 ^ 52) = kept by omega]
    congr 1
    omega

theorem log2_shift {n : Nat} (h0 : n ≠ 0) (p : Nat) : (n * 2 ^ p).log2 = n.log2 + p := by
  have h1 : 2 ^ n.log2 ≤ n := Nat.log2_self_le h0
  have h2 : n < 2 ^ (n.log2 + 1) := Nat.lt_log2_self
  have hn : n * 2 ^ p ≠ 0 := Nat.mul_ne_zero h0 (Nat.pos_iff_ne_zero.1 (Nat.two_pow_pos p))
  apply (Nat.log2_eq_iff hn).2
  refine ⟨?_, ?_⟩
  · rw [Nat.pow_add]; exact Nat.mul_le_mul_right _ h1
  · rw [show n.log2 + p + 1 = n.log2 + 1 + p by omega, Nat.pow_add]; exact Nat.mul_lt_mul_of_pos_right h2 (Nat.two_pow_pos p)

theorem cut_whole (s : Bool) (a d : Nat) : Ieee.Toward.even.cut s (a * 2 ^ d) d = a := by
  unfold Ieee.Toward.cut
  have hmin : min d ((a * 2 ^ d).log2 + 2) = d ∨ a = 0 := by
    by_cases ha : a = 0
    · exact .inr ha
    · left
      rw [log2_shift ha]
      omega
  rcases hmin with h | h
  · simp only [h, Nat.one_shiftLeft]
    rw [Nat.mul_mod_left, Nat.mul_div_cancel _ (Nat.two_pow_pos d)]
    have h1 : decide (2 ^ d < 2 * 0) = false := by simp
    have h2 : (2 ^ d == 2 * 0) = false := by
      rw [beq_eq_false_iff_ne]
      have := Nat.two_pow_pos d
      omega
    simp only [h1, h2, Bool.false_and, Bool.or_false, Bool.false_or]
    rfl
  · subst h
    rw [Nat.zero_mul]
    simp only [Nat.zero_div, Nat.zero_mod, Nat.one_shiftLeft]
    have h1 : ∀ k : Nat, decide (2 ^ k < 2 * 0) = false := fun k => by simp
    have h2 : ∀ k : Nat, (2 ^ k == 2 * 0) = false := fun k => by
      rw [beq_eq_false_iff_ne]
      have := Nat.two_pow_pos k
      omega
    simp only [h1, h2, Bool.false_and, Bool.or_false, Bool.false_or]
    rfl

theorem nearest_w (s : Bool) {n : Nat} (h : n < 2 ^ 53) (p : Nat) : Ieee.double.nearest s (n * 2 ^ p) (-(p : Int)) = wb s n := by
  unfold Ieee.Format.nearest
  by_cases h0 : n = 0
  · subst h0
    rw [if_pos (Nat.zero_mul _), d_word, Nat.add_zero, wb, if_pos rfl]
  · have hn : n * 2 ^ p ≠ 0 := Nat.mul_ne_zero h0 (Nat.pos_iff_ne_zero.1 (Nat.two_pow_pos p))
    obtain ⟨k1, k2⟩ := kept_ge h h0
    have hl := log2_lt53 h h0
    rw [if_neg hn, log2_shift h0, d_fb, d_lp]
    have hlast : max (-(p : Int) + ((n.log2 + p : Nat) : Int) - ((52 : Nat) : Int)) (-1074) = (n.log2 : Int) - 52 := by omega
    simp only [hlast]
    have hkept : Ieee.Toward.even.cut s ((n * 2 ^ p) <<< (-(p : Int) - ((n.log2 : Int) - 52)).toNat) (((n.log2 : Int) - 52) - -(p : Int)).toNat = n * 2 ^ (52 - n.log2) := by
      rw [Nat.shiftLeft_eq]
      by_cases hp : p ≤ 52 - n.log2
      · have e1 : (-(p : Int) - ((n.log2 : Int) - 52)).toNat = 52 - n.log2 - p := by omega
        have e2 : (((n.log2 : Int) - 52) - -(p : Int)).toNat = 0 := by omega
        rw [e1, e2, Nat.mul_assoc, ← Nat.pow_add, show p + (52 - n.log2 - p) = 52 - n.log2 by omega]
        have := cut_whole s (n * 2 ^ (52 - n.log2)) 0
        rwa [Nat.pow_zero, Nat.mul_one] at this
      · have e1 : (-(p : Int) - ((n.log2 : Int) - 52)).toNat = 0 := by omega
        have e2 : (((n.log2 : Int) - 52) - -(p : Int)).toNat = p - (52 - n.log2) := by omega
        rw [e1, e2, Nat.pow_zero, Nat.mul_one]
        have := cut_whole s (n * 2 ^ (52 - n.log2)) (p - (52 - n.log2))
        rwa [Nat.mul_assoc, ← Nat.pow_add, show 52 - n.log2 + (p - (52 - n.log2)) = p by omega] at this
    rw [hkept, d_bin, d_inf, d_word]
    have e3 : ((n.log2 : Int) - 52 - -1074).toNat = 1022 + n.log2 := by omega
    rw [e3, wb, if_neg h0, Nat.min_eq_left (by omega)]

/-! ### sums, products, signs, order -/
theorem signed_w (s : Bool) (n q M : Nat) (h : q ≤ M) : Ieee.signed s (n * 2 ^ q) (M - q) = sg s n * 2 ^ M := by
  have e : (n * 2 ^ q) <<< (M - q) = n * 2 ^ M := by rw [Nat.shiftLeft_eq, Nat.mul_assoc, ← Nat.pow_add, show q + (M - q) = M by omega]
  unfold Ieee.signed sg
  rw [e]
  cases s
  · simp only [Bool.false_eq_true, if_false]; push_cast; rfl
  · simp only [if_true]; push_cast; rw [Int.neg_mul]

theorem pow_pos' (M : Nat) : (0 : Int) < 2 ^ M := by exact_mod_cast Nat.two_pow_pos M

theorem sum_w {s t : Bool} {m n q r : Nat} : ∃ M : Nat, Ieee.Datum.sum (.number s (n * 2 ^ q) (-(q : Int))) (.number t (m * 2 ^ r) (-(r : Int))) =
    some (.number (if sg s n + sg t m = 0 then s && t else decide (sg s n + sg t m < 0)) ((sg s n + sg t m).natAbs * 2 ^ M) (-(M : Int))) := by
  refine ⟨max q r, ?_⟩
  unfold Ieee.Datum.sum
  have hb : min (-(q : Int)) (-(r : Int)) = -((max q r : Nat) : Int) := by omega
  have e1 : (-(q : Int) - -((max q r : Nat) : Int)).toNat = max q r - q := by omega
  have e2 : (-(r : Int) - -((max q r : Nat) : Int)).toNat = max q r - r := by omega
  simp only [hb, e1, e2]
  rw [signed_w s n q (max q r) (by omega), signed_w t m r (max q r) (by omega), ← Int.add_mul]
  have hp := pow_pos' (max q r)
  generalize sg s n + sg t m = z
  have h0 : (z * 2 ^ (max q r) = 0) ↔ z = 0 := by
    constructor
    · intro h; rcases Int.mul_eq_zero.1 h with h | h
      · exact h
      · omega
    · intro h; rw [h, Int.zero_mul]
  have h1 : (z * 2 ^ (max q r) < 0) ↔ z < 0 := by
    constructor
    · intro h
      apply Classical.byContradiction
      intro hz
      have := Int.mul_nonneg (by omega : 0 ≤ z) (Int.le_of_lt hp)
      omega
    · intro h; exact Int.mul_neg_of_neg_of_pos h hp
  have h2 : (z * 2 ^ (max q r)).natAbs = z.natAbs * 2 ^ (max q r) := by rw [Int.natAbs_mul, Int.natAbs_pow]; rfl
  rw [h2]
  congr 2
  by_cases hz : z = 0
  · rw [if_pos (h0.2 hz), if_pos hz]
  · rw [if_neg (fun h => hz (h0.1 h)), if_neg hz]
    exact decide_eq_decide.2 h1

theorem add_w {x y : Nat} {s t : Bool} {n m : Nat} (hx : Rd x s n) (hy : Rd y t m) (h : (sg s n + sg t m).natAbs < 2 ^ 53) :
    Ieee.double.add x y = some (wb (if sg s n + sg t m = 0 then s && t else decide (sg s n + sg t m < 0)) (sg s n + sg t m).natAbs) := by
  obtain ⟨q, hq⟩ := hx
  obtain ⟨r, hr⟩ := hy
  unfold Ieee.Format.add
  rw [hq, hr]
  obtain ⟨M, hM⟩ := sum_w (s := s) (t := t) (m := m) (n := n) (q := q) (r := r)
  rw [hM]
  simp only [Option.map_some, Ieee.Format.write]
  rw [nearest_w _ h]
theorem sub_w {x y : Nat} {s t : Bool} {n m : Nat} (hx : Rd x s n) (hy : Rd y t m) (h : (sg s n + sg (!t) m).natAbs < 2 ^ 53) :
    Ieee.double.sub x y = some (wb (if sg s n + sg (!t) m = 0 then s && !t else decide (sg s n + sg (!t) m < 0)) (sg s n + sg (!t) m).natAbs) := by
  obtain ⟨q, hq⟩ := hx
  obtain ⟨r, hr⟩ := hy
  unfold Ieee.Format.sub
  rw [hq, hr]
  obtain ⟨M, hM⟩ := sum_w (s := s) (t := !t) (m := m) (n := n) (q := q) (r := r)
  simp only [Ieee.Datum.opposite, hM, Option.map_some, Ieee.Format.write]
  rw [nearest_w _ h]
theorem mul_w {x y : Nat} {s t : Bool} {n m : Nat} (hx : Rd x s n) (hy : Rd y t m) (h : n * m < 2 ^ 53) : Ieee.double.mul x y = some (wb (s ^^ t) (n * m)) := by
  obtain ⟨q, hq⟩ := hx
  obtain ⟨r, hr⟩ := hy
  unfold Ieee.Format.mul
  rw [hq, hr]
  simp only [Ieee.Datum.product, Option.map_some, Ieee.Format.write]
  have e : n * 2 ^ q * (m * 2 ^ r) = n * m * 2 ^ (q + r) := by rw [Nat.pow_add]; ac_rfl
  have e2 : -(q : Int) + -(r : Int) = -((q + r : Nat) : Int) := by omega
  rw [e, e2, nearest_w _ h]
theorem order_w {x y : Nat} {s t : Bool} {n m : Nat} (hx : Rd x s n) (hy : Rd y t m) : Ieee.double.order x y = some (compare (sg s n) (sg t m)) := by
  obtain ⟨q, hq⟩ := hx
  obtain ⟨r, hr⟩ := hy
  unfold Ieee.Format.order
  rw [hq, hr]
  unfold Ieee.Datum.order
  have hb : min (-(q : Int)) (-(r : Int)) = -((max q r : Nat) : Int) := by omega
  have e1 : (-(q : Int) - -((max q r : Nat) : Int)).toNat = max q r - q := by omega
  have e2 : (-(r : Int) - -((max q r : Nat) : Int)).toNat = max q r - r := by omega
  simp only [hb, e1, e2]
  rw [signed_w s n q (max q r) (by omega), signed_w t m r (max q r) (by omega)]
  have hp := pow_pos' (max q r)
  congr 1
  generalize sg s n = a
  generalize sg t m = b
  rcases Int.lt_trichotomy a b with h | h | h
  · rw [(Int.compare_eq_lt).2 h, (Int.compare_eq_lt).2 (Int.mul_lt_mul_of_pos_right h hp)]
  · rw [h]; simp
  · rw [(Int.compare_eq_gt).2 h, (Int.compare_eq_gt).2 (Int.mul_lt_mul_of_pos_right h hp)]
theorem toInt_w {x : Nat} {s : Bool} {n : Nat} (hx : Rd x s n) : (Ieee.double.read x).toInt .zero = some (sg s n) := by
  obtain ⟨q, hq⟩ := hx
  rw [hq]
  unfold Ieee.Datum.toInt Ieee.Datum.integral
  have e1 : (-(q : Int)).toNat = 0 := by omega
  have e2 : (- -(q : Int)).toNat = q := by omega
  simp only [e1, e2, Nat.shiftLeft_zero]
  have hc : Ieee.Toward.zero.cut s (n * 2 ^ q) q = n := by
    unfold Ieee.Toward.cut
    have hmin : min q ((n * 2 ^ q).log2 + 2) = q ∨ n = 0 := by
      by_cases ha : n = 0
      · exact .inr ha
      · left
        rw [log2_shift ha]
        omega
    rcases hmin with h | h
    · simp only [h, Nat.one_shiftLeft]
      rw [Nat.mul_div_cancel _ (Nat.two_pow_pos q)]; rfl
    · subst h
      rw [Nat.zero_mul]
      simp only [Nat.zero_div]; rfl
  rw [hc]
  unfold Ieee.signed sg
  simp only [Nat.shiftLeft_zero]
theorem ofInt_w (z : Int) (h : z.natAbs < 2 ^ 53) : FloatKind.f64.nearest z = wb (decide (z < 0)) z.natAbs := by
  unfold FloatKind.nearest FloatKind.encode
  show Ieee.double.write _ = _
  simp only [Ieee.Format.write]
  have := nearest_w (decide (z < 0)) h 0
  rwa [Nat.pow_zero, Nat.mul_one] at this

end Go.Proofs.YtpgcbmmifmnfpaaDoorA
