/- partition of marks, walked. No condition. -/
import Derived.Test.YtcaokdlmolnbaaaQ11
namespace Go.Proofs.YtcaokdlmolnbaaaV
open Go Go.RowKit Go.Proofs.YtcaokdlmolnbaaaA
set_option linter.unusedVariables false
set_option linter.unusedSimpArgs false
set_option maxRecDepth 100000

/-- between the scans: below the one at a ahead of i, not below it behind j -/
structure Pt (a b i j : Nat) (v : Int) (l : List Mk) : Prop where
  at' : ky l a = v
  lo : ∀ p, a < p → p < i → ky l p < v
  hi : ∀ p, j < p → p < b → ¬ ky l p < v
/-- parted at m -/
def Pd (a b m : Nat) (l : List Mk) : Prop := (∀ p, a ≤ p → p < m → ky l p < ky l m) ∧ ∀ p, m < p → p < b → ¬ ky l p < ky l m
theorem pt_swap {a b i j : Nat} {v : Int} {l : List Mk} (h : Pt a b i j v l) (hai : a < i) (hij : i < j) (hjb : j < b) (hl : b ≤ l.length) (h1 : ¬ ky l i < v) (h2 : ky l j < v) : Pt a b (i + 1) (j - 1) v (swp l i j (by omega) (by omega)) := by
  refine ⟨?_, fun p k1 k2 => ?_, fun p k1 k2 => ?_⟩
  · rw [ky_swp, if_neg (by omega), if_neg (by omega)]; exact h.at'
  · rw [ky_swp, if_neg (by omega)]
    by_cases e : p = i
    · rw [if_pos e]; exact h2
    · rw [if_neg e]; exact h.lo p k1 (by omega)
  · rw [ky_swp]
    by_cases e : p = j
    · rw [if_pos e]; exact h1
    · rw [if_neg e, if_neg (by omega)]; exact h.hi p (by omega) k2
theorem pt_end {a b j : Nat} {v : Int} {l : List Mk} (h : Pt a b (j + 1) j v l) (haj : a ≤ j) (hjb : j < b) (hl : b ≤ l.length) : Pd a b j (swp l j a (by omega) (by omega)) := by
  have e0 : ky (swp l j a (by omega) (by omega)) j = v := by
    rw [ky_swp]
    by_cases e : j = a
    · rw [if_pos e, e]; exact h.at'
    · rw [if_neg e, if_pos rfl]; exact h.at'
  refine ⟨fun p k1 k2 => ?_, fun p k1 k2 => ?_⟩
  · rw [e0, ky_swp]
    by_cases e : p = a
    · rw [if_pos e]; exact h.lo j (by omega) (by omega)
    · rw [if_neg e, if_neg (by omega)]; exact h.lo p (by omega) (by omega)
  · rw [e0, ky_swp, if_neg (by omega), if_neg (by omega)]; exact h.hi p k1 k2
theorem Pt.up {a b i j i' : Nat} {v : Int} {l : List Mk} (h : Pt a b i j v l) (hlo : ∀ p, i ≤ p → p < i' → ky l p < v) : Pt a b i' j v l :=
  ⟨h.at', fun p k1 k2 => by
    by_cases e : p < i
    · exact h.lo p k1 e
    · exact hlo p (by omega) k2, h.hi⟩
theorem Pt.dn {a b i j j' : Nat} {v : Int} {l : List Mk} (h : Pt a b i j v l) (hhi : ∀ p, j' < p → p ≤ j → ¬ ky l p < v) : Pt a b i j' v l :=
  ⟨h.at', h.lo, fun p k1 k2 => by
    by_cases e : j < p
    · exact h.hi p e k2
    · exact hhi p k1 (by omega)⟩
end Go.Proofs.YtcaokdlmolnbaaaV
