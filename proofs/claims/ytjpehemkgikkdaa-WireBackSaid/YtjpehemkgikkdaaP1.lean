/- The plain law: a number that was put is taken. No condition. -/
import Derived.Test.YtjpehemkgikkdaaR9
namespace Go.Proofs.YtjpehemkgikkdaaV
open Go Go.RowKit Go.Proofs.YtjpehemkgikkdaaA
set_option linter.unusedVariables false
set_option linter.unusedSimpArgs false
set_option maxRecDepth 100000

theorem or_add {n y sh : Nat} (h : n < 2 ^ sh) : n ||| y * 2 ^ sh = n + y * 2 ^ sh := by
  have := Nat.two_pow_add_eq_or_of_lt h y
  rw [Nat.or_comm, Nat.mul_comm, ← this, Nat.add_comm]

theorem and_127 (c : Nat) : c &&& 127 = c % 128 := Nat.and_two_pow_sub_one_eq_mod c 7

theorem rd_enc : ∀ (m x sh n k : Nat) (r : List UInt8), x < 128 ^ (m + 1) → sh + 7 * m = 63 → n < 2 ^ sh → (0 < sh → 0 < x) → x * 2 ^ sh < 2 ^ 64 → rd (encF m x ++ r) sh n k = .inr (n + x * 2 ^ sh, k + (encF m x).length)
  | 0, x, sh, n, k, r, hx, hs, hn, h0, hb => by
    simp only [Nat.zero_add, Nat.pow_one] at hx
    have hs63 : sh = 63 := by omega
    have hx1 : x ≤ 1 := by
      rw [hs63] at hb
      omega
    have e : (UInt8.ofNat x).toNat = x := UInt8.toNat_ofNat_of_lt' (by show x < 256; omega)
    simp only [encF, List.cons_append, List.nil_append, rd, e, and_127, List.length_singleton]
    rw [if_neg (by have := h0 (by omega); omega), if_neg (by omega), or_add hn, Nat.mod_eq_of_lt (by omega)]
  | m + 1, x, sh, n, k, r, hx, hs, hn, h0, hb => by
    rw [encF]
    by_cases h1 : x < 128
    · have e : (UInt8.ofNat x).toNat = x := UInt8.toNat_ofNat_of_lt' (by show x < 256; omega)
      rw [if_pos h1]
      simp only [List.cons_append, List.nil_append, rd, e, and_127, List.length_singleton]
      rw [if_neg (by
        rintro (⟨h2, _⟩ | ⟨h2, h3⟩)
        · omega
        · have := h0 h2; omega), if_neg (by omega), or_add hn, Nat.mod_eq_of_lt h1]
    · have e : (UInt8.ofNat (x % 128 + 128)).toNat = x % 128 + 128 := UInt8.toNat_ofNat_of_lt' (by show x % 128 + 128 < 256; omega)
      rw [if_neg h1]
      simp only [List.cons_append, rd, e, and_127]
      have hx' : x / 128 < 128 ^ (m + 1) := by
        rw [Nat.div_lt_iff_lt_mul (by decide), ← Nat.pow_succ]; exact hx
      have hp : 2 ^ (sh + 7) = 2 ^ sh * 128 := by rw [Nat.pow_add]
      have hmod : (x % 128 + 128) % 128 = x % 128 := by omega
      have hsum : x % 128 * 2 ^ sh + x / 128 * (2 ^ sh * 128) = x * 2 ^ sh := by
        have h3 : x % 128 + 128 * (x / 128) = x := Nat.mod_add_div x 128
        have h4 : x / 128 * (2 ^ sh * 128) = (128 * (x / 128)) * 2 ^ sh := by
          rw [Nat.mul_comm (2 ^ sh) 128, ← Nat.mul_assoc, Nat.mul_comm (x / 128) 128]
        rw [h4, ← Nat.add_mul, h3]
      rw [if_neg (by
        rintro (⟨h2, _⟩ | ⟨h2, h3⟩)
        · omega
        · omega), if_pos (by omega), hmod, or_add hn]
      rw [rd_enc m (x / 128) (sh + 7) _ (k + 1) r hx' (by omega) (by
        rw [hp]
        have : x % 128 * 2 ^ sh ≤ 127 * 2 ^ sh := Nat.mul_le_mul_right _ (by omega)
        omega) (fun _ => by omega) (by rw [hp]; omega)]
      simp only [List.length_cons]
      rw [hp, Nat.add_assoc, hsum]
      congr 2
      omega

theorem rd_put {x : Nat} (h : x < 2 ^ 64) (r : List UInt8) : rd (enc x ++ r) 0 0 0 = .inr (x, (enc x).length) := by
  have := rd_enc 9 x 0 0 0 r (lt_enc h) (by decide) (by decide) (fun h => by omega) (by simpa using h)
  rw [enc, this]
  simp

end Go.Proofs.YtjpehemkgikkdaaV
