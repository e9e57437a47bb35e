/- What pdqsort needs of rows with keys all unlike: plain laws. No condition. -/
import Derived.Test.YtcaokdlmolnbaaaQ16
namespace Go.Proofs.YtcaokdlmolnbaaaV
open Go Go.RowKit Go.Proofs.YtcaokdlmolnbaaaA
set_option linter.unusedVariables false
set_option linter.unusedSimpArgs false

/-- keys all unlike from a to b -/
def Un (a b : Nat) (l : List Mk) : Prop := ∀ p q, a ≤ p → p < b → a ≤ q → q < b → p ≠ q → ky l p ≠ ky l q
theorem Un.sub {a b c d : Nat} {l : List Mk} (h : Un a b l) (h1 : a ≤ c) (h2 : d ≤ b) : Un c d l := fun p q k1 k2 k3 k4 k5 => h p q (by omega) (by omega) (by omega) (by omega) k5
theorem Un.mv {a b : Nat} {l l' : List Mk} (h : Un a b l) (hM : Mv a b l l') : Un a b l' := by
  obtain ⟨e, P, R, k1, k2, k3, k4⟩ := hM
  have hin : ∀ k, a ≤ k → k < b → a ≤ P k ∧ P k < b := fun k h1 h2 => by
    apply Classical.byContradiction
    intro hn
    have h3 := k3 (P k) (by omega)
    have h4 := k2 (P k)
    rw [h3, k2] at h4
    omega
  have hk : ∀ k, ky l' k = ky l (P k) := fun k => by unfold ky; rw [k4]
  intro p q h1 h2 h3 h4 hne
  rw [hk, hk]
  refine h _ _ (hin p h1 h2).1 (hin p h1 h2).2 (hin q h3 h4).1 (hin q h3 h4).2 (fun e => hne ?_)
  rw [← k2 p, ← k2 q, e]
theorem Ab.sub {a b m : Nat} {l : List Mk} (h : Ab a b l) (hm : m ≤ b) : Ab a m l := fun p q k1 k2 k3 => h p q k1 k2 (by omega)
theorem Ab.right {a b m : Nat} {l : List Mk} (h : Ab a b l) (hP : Pd a b m l) (hU : Un a b l) (h1 : a ≤ m) (h2 : m < b) : Ab (m + 1) b l := by
  intro p q k1 k2 k3
  have hq := hP.2 q (by omega) k3
  have hne := hU m q h1 h2 (by omega) k3 (by omega)
  by_cases e1 : p < a
  · exact h p q e1 (by omega) k3
  · by_cases e2 : p = m
    · rw [e2]; omega
    · have := hP.1 p (by omega) (by omega); omega
theorem so_join {a b m : Nat} {l : List Mk} (hP : Pd a b m l) (hl : So a m l) (hr : So (m + 1) b l) : So a b l := by
  intro p q k1 k2 k3
  by_cases e1 : q < m
  · exact hl p q k1 k2 e1
  · by_cases e2 : m < p
    · exact hr p q (by omega) k2 k3
    · have h1 : ky l p ≤ ky l m := by
        by_cases e : p = m
        · rw [e]; exact Int.le_refl _
        · have := hP.1 p k1 (by omega); omega
      have h2 : ky l m ≤ ky l q := by
        by_cases e : q = m
        · rw [e]; exact Int.le_refl _
        · have := hP.2 q (by omega) k3; omega
      omega
theorem Pd.left {a b m : Nat} {l l' : List Mk} (h : Pd a b m l) (hM : Mv a m l l') : Pd a b m l' := by
  refine ⟨fun p k1 k2 => ?_, fun p k1 k2 => ?_⟩
  · obtain ⟨x, h1, h2, h3⟩ := hM.ky (k := p) ⟨k1, k2⟩
    rw [h3, hM.kys (.inr (Nat.le_refl _))]; exact h.1 x h1 h2
  · rw [hM.kys (.inr (Nat.le_refl _)), hM.kys (.inr (by omega))]; exact h.2 p k1 k2
theorem Pd.right {a b m : Nat} {l l' : List Mk} (h : Pd a b m l) (hM : Mv (m + 1) b l l') : Pd a b m l' := by
  refine ⟨fun p k1 k2 => ?_, fun p k1 k2 => ?_⟩
  · rw [hM.kys (.inl (by omega)), hM.kys (.inl (by omega))]; exact h.1 p k1 k2
  · obtain ⟨x, h1, h2, h3⟩ := hM.ky (k := p) ⟨by omega, k2⟩
    rw [h3, hM.kys (k := m) (.inl (by omega))]; exact h.2 x (by omega) h2
end Go.Proofs.YtcaokdlmolnbaaaV
