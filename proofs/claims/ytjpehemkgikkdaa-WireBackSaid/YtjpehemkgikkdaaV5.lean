/- Plain laws of a number's bytes, and what stays where another writer is written. No condition. -/
import Derived.Test.YtjpehemkgikkdaaV4
namespace Go.Proofs.YtjpehemkgikkdaaV
open Go Go.RowKit Go.Proofs.YtjpehemkgikkdaaA
set_option linter.unusedVariables false
set_option linter.unusedSimpArgs false
set_option maxRecDepth 100000

theorem ofNat_inj {a b : Nat} (ha : a < 256) (hb : b < 256) (h : UInt8.ofNat a = UInt8.ofNat b) : a = b := by
  have := congrArg UInt8.toNat h
  rwa [UInt8.toNat_ofNat_of_lt' (by simpa using ha), UInt8.toNat_ofNat_of_lt' (by simpa using hb)] at this

theorem encF_inj : ∀ (m x y : Nat) (r r' : List UInt8), x < 128 ^ (m + 1) → y < 128 ^ (m + 1) → encF m x ++ r = encF m y ++ r' → x = y ∧ r = r'
  | 0, x, y, r, r', hx, hy, h => by
    simp only [encF, List.singleton_append, List.cons.injEq] at h
    simp only [Nat.zero_add, Nat.pow_one] at hx hy
    exact ⟨ofNat_inj (by omega) (by omega) h.1, h.2⟩
  | m + 1, x, y, r, r', hx, hy, h => by
    have hx' : x / 128 < 128 ^ (m + 1) := by
      rw [Nat.div_lt_iff_lt_mul (by decide), ← Nat.pow_succ]; exact hx
    have hy' : y / 128 < 128 ^ (m + 1) := by
      rw [Nat.div_lt_iff_lt_mul (by decide), ← Nat.pow_succ]; exact hy
    unfold encF at h
    by_cases h1 : x < 128
    · by_cases h2 : y < 128
      · rw [if_pos h1, if_pos h2] at h
        simp only [List.singleton_append, List.cons.injEq] at h
        exact ⟨ofNat_inj (by omega) (by omega) h.1, h.2⟩
      · rw [if_pos h1, if_neg h2] at h
        simp only [List.singleton_append, List.cons_append, List.cons.injEq] at h
        have := ofNat_inj (by omega) (by omega) h.1
        omega
    · by_cases h2 : y < 128
      · rw [if_neg h1, if_pos h2] at h
        simp only [List.singleton_append, List.cons_append, List.cons.injEq] at h
        have := ofNat_inj (by omega) (by omega) h.1
        omega
      · rw [if_neg h1, if_neg h2] at h
        simp only [List.cons_append, List.cons.injEq] at h
        have e1 := ofNat_inj (by omega) (by omega) h.1
        obtain ⟨e2, e3⟩ := encF_inj m _ _ r r' hx' hy' h.2
        exact ⟨by omega, e3⟩

theorem lt_enc {x : Nat} (h : x < 2 ^ 64) : x < 128 ^ (9 + 1) := Nat.lt_of_lt_of_le h (by decide)

theorem enc_inj {x y : Nat} (hx : x < 2 ^ 64) (hy : y < 2 ^ 64) {r r' : List UInt8} (h : enc x ++ r = enc y ++ r') : x = y ∧ r = r' :=
  encF_inj 9 x y r r' (lt_enc hx) (lt_enc hy) h

theorem encF_len : ∀ (m x : Nat), (encF m x).length ≤ m + 1
  | 0, x => by simp [encF]
  | m + 1, x => by
    rw [encF]
    split
    · simp
    · have := encF_len m (x / 128)
      simp only [List.length_cons]
      omega
theorem enc_len (x : Nat) : (enc x).length ≤ 10 := encF_len 9 x

/-- a writer, where another one is written -/
theorem wat_fr {st st' : ASt} {s s' : Nat} {l : List UInt8} {k k' : Option Nat} (h : WAt st s l k) (hf : Fr st st' s' k') (hs : s ≠ s') (hk : k' ≠ some s) (hk2 : ∀ j, k = some j → j ≠ s' ∧ k' ≠ some j) : WAt st' s l k := by
  have h1 : s < st.ctr := h.1
  refine ⟨Nat.lt_of_lt_of_le h1 hf.1, ?_⟩
  cases k with
  | none =>
    exact ⟨h.2.1, by rw [hf.2 s h1 hs hk]; exact h.2.2⟩
  | some t =>
    have h2 : t < st.ctr := h.2.1
    have h3 : t ≠ s := h.2.2.1
    refine ⟨Nat.lt_of_lt_of_le h2 hf.1, h3, ?_, ?_⟩
    · rw [hf.2 s h1 hs hk]; exact h.2.2.2.1
    · rw [hf.2 t h2 (hk2 t rfl).1 (hk2 t rfl).2]; exact h.2.2.2.2

theorem wat_gr {st st' : ASt} {s : Nat} {l : List UInt8} {k : Option Nat} (h : WAt st s l k) (hg : Gr st st') : WAt st' s l k := by
  have h1 : s < st.ctr := h.1
  refine ⟨Nat.lt_of_lt_of_le h1 hg.1, ?_⟩
  cases k with
  | none => exact ⟨h.2.1, by rw [hg.2 s h1]; exact h.2.2⟩
  | some t =>
    have h2 : t < st.ctr := h.2.1
    exact ⟨Nat.lt_of_lt_of_le h2 hg.1, h.2.2.1, by rw [hg.2 s h1]; exact h.2.2.2.1, by rw [hg.2 t h2]; exact h.2.2.2.2⟩

/-- a writer anew -/
theorem wat_init (st : ASt) : WAt (st.new (.cells [.nilSlice])) st.ctr [] none :=
  ⟨by simp [ASt.new], rfl, by simp [ASt.new]⟩

theorem alloc_w (st : ASt) : allocA E.P 26 st = some (.ptr st.ctr 0, st.new (.cells [.nilSlice])) := rfl

/-- Awake's answer, as a fact to be laid in -/
def AwakeIs (s0 : ASt) : Prop := ∃ d, RetN E d 15 [] st0 (.lit (.bool true)) s0

end Go.Proofs.YtjpehemkgikkdaaV
