/- Words of floats at large: sign, size, cuts. No condition. -/
import Derived.Test.YtingncadiolajaaDoorFM
namespace Go.Proofs.YtingncadiolajaaDoorA
open Go
set_option linter.unusedVariables false
set_option linter.unusedSimpArgs false

/-- the word of a sign and a rung -/
def sw (s : Bool) (r : Nat) : Nat := (if s then 2 ^ 63 else 0) + r
/-- what a rung stands for -/
def rdm (s : Bool) (r : Nat) : Ieee.Datum :=
  if r < 2 ^ 52 then .number s r (-1074)
  else if r < 2047 * 2 ^ 52 then .number s (2 ^ 52 + r % 2 ^ 52) (-1074 + (r / 2 ^ 52 - 1 : Nat))
  else if r = 2047 * 2 ^ 52 then .infinity s
  else .nan s (r - 2047 * 2 ^ 52)
theorem read_sw (s : Bool) {r : Nat} (h : r < 2 ^ 63) : Ieee.double.read (sw s r) = rdm s r := by
  unfold Ieee.Format.read sw rdm
  have e1 : ((if s then 2 ^ 63 else 0) + r) % 2 ^ 63 = r := by cases s <;> simp <;> omega
  have e2 : (((if s then 2 ^ 63 else 0) + r) / 2 ^ 63 % 2 == 1) = s := by
    cases s
    · have : r / 2 ^ 63 = 0 := Nat.div_eq_of_lt h
      simp [this]
    · have : (2 ^ 63 + r) / 2 ^ 63 = 1 := by omega
      simp only [if_true, this]; rfl
  simp only [d_sw, d_bin, d_inf, d_lp, e1, e2]
theorem sw_of {b : Nat} (h : b < 2 ^ 64) : ∃ s r, r < 2 ^ 63 ∧ b = sw s r := by
  by_cases hb : b < 2 ^ 63
  · exact ⟨false, b, hb, by simp [sw]⟩
  · refine ⟨true, b - 2 ^ 63, by omega, ?_⟩
    simp only [sw, if_true]; omega
theorem neg_sw (s : Bool) {r : Nat} (h : r < 2 ^ 63) : Op.negFloat .f64 (sw s r) = sw (!s) r := by
  show sw s r ^^^ 2 ^ 63 = sw (!s) r
  have e : ∀ x : Nat, x < 2 ^ 63 → 2 ^ 63 + x = 2 ^ 63 ^^^ x := fun x hx => by
    have := Nat.two_pow_add_eq_or_of_lt hx 1
    rw [Nat.mul_one] at this
    rw [this]
    apply Nat.eq_of_testBit_eq
    intro i
    rw [Nat.testBit_or, Nat.testBit_xor, Nat.testBit_two_pow]
    by_cases hi : 63 = i
    · subst hi
      rw [Nat.testBit_lt_two_pow hx]; rfl
    · simp [hi]
  unfold sw
  cases s
  · simp only [Bool.false_eq_true, if_false, Nat.zero_add, Bool.not_false, if_true]
    rw [e r h, Nat.xor_comm]
  · simp only [if_true, Bool.not_true, Bool.false_eq_true, if_false, Nat.zero_add]
    rw [e r h, Nat.xor_comm, ← Nat.xor_assoc, Nat.xor_self, Nat.zero_xor]
theorem abs_sw (s : Bool) {r : Nat} (h : r < 2 ^ 63) : IntKind.u64.wrap (BitVec.ofInt (IntKind.bits .u64) ((sw s r : Nat) : Int) &&& ~~~ BitVec.ofInt (IntKind.bits .u64) 9223372036854775808).toNat = ((r : Nat) : Int) := by
  have e : (BitVec.ofInt (IntKind.bits .u64) ((sw s r : Nat) : Int) &&& ~~~ BitVec.ofInt (IntKind.bits .u64) 9223372036854775808).toNat = r := by
    have e1 : ∀ x : Nat, x < 2 ^ 63 → ((BitVec.ofNat 64 x &&& ~~~ (BitVec.ofNat 64 9223372036854775808)) = BitVec.ofNat 64 x) ∧ ((BitVec.ofNat 64 (2 ^ 63 + x) &&& ~~~ (BitVec.ofNat 64 9223372036854775808)) = BitVec.ofNat 64 x) := by
      intro x hx
      have tb : ∀ i, i < 64 → (BitVec.ofNat 64 x).getLsbD i = x.testBit i := fun i hi => by rw [BitVec.getLsbD_ofNat, decide_eq_true hi, Bool.true_and]
      have t63 : x.testBit 63 = false := Nat.testBit_lt_two_pow hx
      have hc : ∀ i, i < 64 → (BitVec.ofNat 64 9223372036854775808).getLsbD i = decide (63 = i) := fun i hi => by
        rw [BitVec.getLsbD_ofNat, decide_eq_true hi, Bool.true_and, show (9223372036854775808 : Nat) = 2 ^ 63 from rfl, Nat.testBit_two_pow]
      refine ⟨?_, ?_⟩
      · apply BitVec.eq_of_getLsbD_eq
        intro i hi
        rw [BitVec.getLsbD_and, BitVec.getLsbD_not, tb i hi, hc i hi]
        by_cases h63 : 63 = i
        · subst h63; simp [t63]
        · simp [h63, hi]
      · apply BitVec.eq_of_getLsbD_eq
        intro i hi
        rw [BitVec.getLsbD_and, BitVec.getLsbD_not, tb i hi, hc i hi, BitVec.getLsbD_ofNat, decide_eq_true hi, Bool.true_and]
        by_cases h63 : 63 = i
        · subst h63; simp [t63]
        · have : (2 ^ 63 + x).testBit i = x.testBit i := by
            rw [Nat.testBit_two_pow_add_gt (by omega)]
          simp [h63, hi, this]
    have hb : IntKind.bits .u64 = 64 := rfl
    have hcst : BitVec.ofInt 64 9223372036854775808 = BitVec.ofNat 64 9223372036854775808 := rfl
    rw [hb, BitVec.ofInt_natCast, hcst]
    unfold sw
    cases s
    · simp only [Bool.false_eq_true, if_false, Nat.zero_add]
      rw [(e1 _ h).1, BitVec.toNat_ofNat]; omega
    · simp only [if_true]
      rw [(e1 _ h).2, BitVec.toNat_ofNat]; omega
  rw [e]
  exact wr_u64 (by omega) (by omega)

/-! ### order and cuts -/
theorem signed_g (s : Bool) (m u : Nat) : Ieee.signed s m u = sg s (m * 2 ^ u) := by
  unfold Ieee.signed sg
  rw [Nat.shiftLeft_eq]
theorem sg_pow (s : Bool) (a K : Nat) : sg s (a * 2 ^ K) = sg s a * 2 ^ K := by
  unfold sg
  cases s
  · simp only [Bool.false_eq_true, if_false]; push_cast; rfl
  · simp only [if_true]; push_cast; rw [Int.neg_mul]
theorem cmp_scale (a b : Int) (K : Nat) : compare (a * 2 ^ K) (b * 2 ^ K) = compare a b := by
  have hp := pow_pos' K
  rcases Int.lt_trichotomy a b with h | h | h
  · rw [(Int.compare_eq_lt).2 h, (Int.compare_eq_lt).2 (Int.mul_lt_mul_of_pos_right h hp)]
  · rw [h]; simp
  · rw [(Int.compare_eq_gt).2 h, (Int.compare_eq_gt).2 (Int.mul_lt_mul_of_pos_right h hp)]
theorem order_r {x y : Nat} {s t : Bool} {m n : Nat} {p : Int} (hx : Ieee.double.read x = .number s m p) (hy : Rd y t n) : Ieee.double.order x y = some (compare (sg s (m * 2 ^ p.toNat)) (sg t (n * 2 ^ (-p).toNat))) := by
  obtain ⟨q, hq⟩ := hy
  unfold Ieee.Format.order
  rw [hx, hq]
  unfold Ieee.Datum.order
  have key : ∃ K : Nat, m * 2 ^ (p - min p (-(q : Int))).toNat = m * 2 ^ p.toNat * 2 ^ K ∧ n * 2 ^ q * 2 ^ (-(q : Int) - min p (-(q : Int))).toNat = n * 2 ^ (-p).toNat * 2 ^ K := by
    by_cases h0 : 0 ≤ p
    · refine ⟨q, ?_, ?_⟩
      · rw [Nat.mul_assoc, ← Nat.pow_add, show (p - min p (-(q : Int))).toNat = p.toNat + q by omega]
      · rw [Nat.mul_assoc, Nat.mul_assoc, ← Nat.pow_add, ← Nat.pow_add, show q + (-(q : Int) - min p (-(q : Int))).toNat = (-p).toNat + q by omega]
    · by_cases h1 : -(q : Int) ≤ p
      · refine ⟨q - (-p).toNat, ?_, ?_⟩
        · rw [Nat.mul_assoc, ← Nat.pow_add, show (p - min p (-(q : Int))).toNat = p.toNat + (q - (-p).toNat) by omega]
        · rw [Nat.mul_assoc, Nat.mul_assoc, ← Nat.pow_add, ← Nat.pow_add, show q + (-(q : Int) - min p (-(q : Int))).toNat = (-p).toNat + (q - (-p).toNat) by omega]
      · refine ⟨0, ?_, ?_⟩
        · rw [Nat.mul_assoc, ← Nat.pow_add, show (p - min p (-(q : Int))).toNat = p.toNat + 0 by omega]
        · rw [Nat.mul_assoc, Nat.mul_assoc, ← Nat.pow_add, ← Nat.pow_add, show q + (-(q : Int) - min p (-(q : Int))).toNat = (-p).toNat + 0 by omega]
  obtain ⟨K, k1, k2⟩ := key
  simp only [signed_g, k1, k2]
  rw [sg_pow s _ K, sg_pow t _ K, cmp_scale]
theorem order_nan_l {x y : Nat} {s : Bool} {n : Nat} (hx : Ieee.double.read x = .nan s n) : Ieee.double.order x y = none := by
  unfold Ieee.Format.order
  rw [hx]; rfl
theorem order_inf_l {x y : Nat} {s t : Bool} {n : Nat} (hx : Ieee.double.read x = .infinity s) (hy : Rd y t n) : Ieee.double.order x y = some (if s then .lt else .gt) := by
  obtain ⟨q, hq⟩ := hy
  unfold Ieee.Format.order
  rw [hx, hq]; rfl
theorem cut_parts (A d : Nat) : A / (1 <<< min d (A.log2 + 2)) = A / 2 ^ d ∧ A % (1 <<< min d (A.log2 + 2)) = A % 2 ^ d := by
  rw [Nat.one_shiftLeft]
  by_cases h : d ≤ A.log2 + 2
  · rw [Nat.min_eq_left h]; exact ⟨rfl, rfl⟩
  · rw [Nat.min_eq_right (by omega)]
    have h1 : A < 2 ^ (A.log2 + 1) := Nat.lt_log2_self
    have h2 : 2 ^ (A.log2 + 1) ≤ 2 ^ (A.log2 + 2) := Nat.pow_le_pow_right (by omega) (by omega)
    have h3 : 2 ^ (A.log2 + 2) ≤ 2 ^ d := Nat.pow_le_pow_right (by omega) (by omega)
    rw [Nat.div_eq_of_lt (by omega), Nat.div_eq_of_lt (by omega), Nat.mod_eq_of_lt (by omega), Nat.mod_eq_of_lt (by omega)]
    exact ⟨rfl, rfl⟩
theorem cut_z (s : Bool) (A d : Nat) : Ieee.Toward.zero.cut s A d = A / 2 ^ d := by
  unfold Ieee.Toward.cut
  simp only [(cut_parts A d).1]; rfl
theorem cut_d (s : Bool) (A d : Nat) : Ieee.Toward.down.cut s A d = A / 2 ^ d + (s && A % 2 ^ d != 0).toNat := by
  unfold Ieee.Toward.cut
  simp only [(cut_parts A d).1, (cut_parts A d).2]
theorem int_z {b : Nat} {s : Bool} {m : Nat} {p : Int} (hx : Ieee.double.read b = .number s m p) (h : m * 2 ^ p.toNat / 2 ^ (-p).toNat < 2 ^ 53) : FloatKind.f64.encode ((FloatKind.f64.decode b).integral .zero) = wb s (m * 2 ^ p.toNat / 2 ^ (-p).toNat) := by
  have hd : FloatKind.f64.decode b = .number s m p := hx
  rw [hd]
  unfold Ieee.Datum.integral
  simp only [cut_z, Nat.shiftLeft_eq]
  show Ieee.double.write _ = _
  simp only [Ieee.Format.write]
  have := nearest_w s h 0
  rwa [Nat.pow_zero, Nat.mul_one] at this
theorem int_d {b : Nat} {s : Bool} {m : Nat} {p : Int} (hx : Ieee.double.read b = .number s m p) (h : m * 2 ^ p.toNat / 2 ^ (-p).toNat + (s && m * 2 ^ p.toNat % 2 ^ (-p).toNat != 0).toNat < 2 ^ 53) : FloatKind.f64.encode ((FloatKind.f64.decode b).integral .down) = wb s (m * 2 ^ p.toNat / 2 ^ (-p).toNat + (s && m * 2 ^ p.toNat % 2 ^ (-p).toNat != 0).toNat) := by
  have hd : FloatKind.f64.decode b = .number s m p := hx
  rw [hd]
  unfold Ieee.Datum.integral
  simp only [cut_d, Nat.shiftLeft_eq]
  show Ieee.double.write _ = _
  simp only [Ieee.Format.write]
  have := nearest_w s h 0
  rwa [Nat.pow_zero, Nat.mul_one] at this
/-- whole and small: what fits -/
def okD : Ieee.Datum → Bool
  | .number _ m p => decide (m * 2 ^ p.toNat ≤ 1048576 * 2 ^ (-p).toNat) && decide (m * 2 ^ p.toNat % 2 ^ (-p).toNat = 0)
  | _ => false
theorem okD_sign (s t : Bool) (r : Nat) : okD (rdm s r) = okD (rdm t r) := by
  unfold rdm
  repeat' split
  all_goals rfl
end Go.Proofs.YtingncadiolajaaDoorA
