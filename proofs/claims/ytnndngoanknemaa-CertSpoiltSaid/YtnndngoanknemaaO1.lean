/- The plain law: what is taken as a number is that number's bytes; a part of them is none. No condition. -/
import Derived.Test.YtnndngoanknemaaRA
namespace Go.Proofs.YtnndngoanknemaaV
open Go Go.RowKit Go.Proofs.YtnndngoanknemaaA
set_option linter.unusedVariables false
set_option linter.unusedSimpArgs false
set_option maxRecDepth 100000

theorem rd_inv : ∀ (m : Nat) (l : List UInt8) (sh n k x j : Nat), sh + 7 * m = 63 → n < 2 ^ sh → rd l sh n k = .inr (x, j) →
    ∃ y r, x = n + y * 2 ^ sh ∧ y < 128 ^ (m + 1) ∧ (0 < sh → 0 < y) ∧ j = k + (encF m y).length ∧ l = encF m y ++ r
  | _, [], sh, n, k, x, j, _, _, h => by simp only [rd] at h; cases h
  | 0, c :: r, sh, n, k, x, j, hs, hn, h => by
    have hs63 : sh = 63 := by omega
    rw [rd] at h
    by_cases hb : (sh = 63 ∧ 1 < c.toNat) ∨ (0 < sh ∧ c.toNat = 0)
    · rw [if_pos hb] at h; cases h
    · rw [if_neg hb] at h
      have hc : c.toNat ≤ 1 ∧ c.toNat ≠ 0 := ⟨by
        by_cases h1 : 1 < c.toNat
        · exact absurd (.inl ⟨hs63, h1⟩) hb
        · omega, fun e => hb (.inr ⟨by omega, e⟩)⟩
      rw [if_neg (by omega)] at h
      simp only [Sum.inr.injEq, Prod.mk.injEq] at h
      refine ⟨c.toNat, r, ?_, by simp only [Nat.zero_add, Nat.pow_one]; omega, fun _ => by omega, by simp only [encF, List.length_singleton]; omega, ?_⟩
      · rw [← h.1, and_127, Nat.mod_eq_of_lt (by omega), or_add hn]
      · simp only [encF, List.cons_append, List.nil_append, UInt8.ofNat_toNat]
  | m + 1, c :: r, sh, n, k, x, j, hs, hn, h => by
    have hcl := UInt8.toNat_lt c
    rw [rd] at h
    by_cases hb : (sh = 63 ∧ 1 < c.toNat) ∨ (0 < sh ∧ c.toNat = 0)
    · rw [if_pos hb] at h; cases h
    · rw [if_neg hb] at h
      have hp : 2 ^ (sh + 7) = 2 ^ sh * 128 := by rw [Nat.pow_add]
      by_cases hc : 128 ≤ c.toNat
      · rw [if_pos hc, and_127, or_add hn] at h
        have hlt : n + c.toNat % 128 * 2 ^ sh < 2 ^ (sh + 7) := by
          rw [hp]
          have : c.toNat % 128 * 2 ^ sh ≤ 127 * 2 ^ sh := Nat.mul_le_mul_right _ (by omega)
          omega
        obtain ⟨y, r', e1, e2, e3, e4, e5⟩ := rd_inv m r (sh + 7) _ (k + 1) x j (by omega) hlt h
        have hy := e3 (by omega)
        have hz : ¬ (c.toNat % 128 + 128 * y < 128) := by omega
        have hmod : (c.toNat % 128 + 128 * y) % 128 = c.toNat % 128 := by omega
        have hdiv : (c.toNat % 128 + 128 * y) / 128 = y := by omega
        refine ⟨c.toNat % 128 + 128 * y, r', ?_, ?_, fun _ => by omega, ?_, ?_⟩
        · rw [e1, hp, Nat.add_mul, Nat.add_assoc]
          congr 2
          rw [Nat.mul_comm 128 y, Nat.mul_assoc, Nat.mul_comm 128]
        · have : 128 ^ (m + 1 + 1) = 128 ^ (m + 1) * 128 := Nat.pow_succ ..
          omega
        · rw [encF, if_neg hz, hdiv, e4, List.length_cons]; omega
        · rw [encF, if_neg hz, hdiv, hmod, List.cons_append, ← e5]
          congr 1
          rw [show c.toNat % 128 + 128 = c.toNat by omega, UInt8.ofNat_toNat]
      · rw [if_neg hc] at h
        simp only [Sum.inr.injEq, Prod.mk.injEq] at h
        have h128 : 128 ≤ 128 ^ (m + 1 + 1) := by
          calc 128 = 128 ^ 1 := by decide
            _ ≤ 128 ^ (m + 1 + 1) := Nat.pow_le_pow_right (by decide) (by omega)
        refine ⟨c.toNat, r, ?_, by omega, fun h0 => ?_, ?_, ?_⟩
        · rw [← h.1, and_127, Nat.mod_eq_of_lt (by omega), or_add hn]
        · by_cases e : c.toNat = 0
          · exact absurd (.inr ⟨h0, e⟩) hb
          · omega
        · rw [encF, if_pos (by omega), List.length_singleton]; omega
        · rw [encF, if_pos (by omega), List.cons_append, List.nil_append, UInt8.ofNat_toNat]

/-- what is taken whole as a number is its bytes -/
theorem rd_only {l : List UInt8} {x : Nat} (h : rd l 0 0 0 = .inr (x, l.length)) : l = enc x := by
  obtain ⟨y, r, e1, e2, e3, e4, e5⟩ := rd_inv 9 l 0 0 0 x l.length (by decide) (by decide) h
  have hx : x = y := by simpa using e1
  subst hx
  have hr : r = [] := by
    have := congrArg List.length e5
    rw [List.length_append] at this
    exact List.length_eq_zero_iff.1 (by omega)
  rw [e5, hr, List.append_nil, enc]

theorem rd_part : ∀ (m x sh n k c : Nat), x < 128 ^ (m + 1) → sh + 7 * m = 63 → (0 < sh → 0 < x) → x * 2 ^ sh < 2 ^ 64 → c < (encF m x).length → rd ((encF m x).take c) sh n k = .inl 3
  | _, x, sh, n, k, 0, _, _, _, _, _ => by simp only [List.take_zero, rd]
  | 0, x, sh, n, k, c + 1, hx, hs, h0, hb, hc => by simp [encF] at hc
  | m + 1, x, sh, n, k, c + 1, hx, hs, h0, hb, hc => by
    rw [encF] at hc ⊢
    by_cases h1 : x < 128
    · rw [if_pos h1] at hc; simp at hc
    · have e : (UInt8.ofNat (x % 128 + 128)).toNat = x % 128 + 128 := UInt8.toNat_ofNat_of_lt' (by show x % 128 + 128 < 256; omega)
      rw [if_neg h1] at hc ⊢
      have hp : 2 ^ (sh + 7) = 2 ^ sh * 128 := by rw [Nat.pow_add]
      have hx' : x / 128 < 128 ^ (m + 1) := by
        rw [Nat.div_lt_iff_lt_mul (by decide), ← Nat.pow_succ]; exact hx
      rw [List.take_succ_cons, rd, e, if_neg (by
        rintro (⟨h2, _⟩ | ⟨h2, h3⟩)
        · omega
        · omega), if_pos (by omega)]
      refine rd_part m (x / 128) (sh + 7) _ (k + 1) c hx' (by omega) (fun _ => by omega) ?_ (by simpa using hc)
      rw [hp, Nat.mul_comm (2 ^ sh) 128, ← Nat.mul_assoc]
      exact Nat.lt_of_le_of_lt (Nat.mul_le_mul_right _ (Nat.div_mul_le_self x 128)) hb

theorem rd_short {x c : Nat} (h : x < 2 ^ 64) (hc : c < (enc x).length) : rd ((enc x).take c) 0 0 0 = .inl 3 :=
  rd_part 9 x 0 0 0 c (lt_enc h) (by decide) (fun h => by omega) (by simpa using h) hc

end Go.Proofs.YtnndngoanknemaaV
