/- The laws' own reading of a plan: where a node and all behind it end: its contract, and that it ends where it should. No condition. -/
import Derived.Test.YtnndngoanknemaaN3
namespace Go.Proofs.YtnndngoanknemaaV
open Go Go.RowKit Go.Proofs.YtnndngoanknemaaA
set_option linter.unusedVariables false
set_option linter.unusedSimpArgs false
set_option maxRecDepth 100000

/-- so many steps on -/
def it (g : Nat → Option Nat) : Nat → Nat → Option Nat
  | 0, p => some p
  | k + 1, p => match g p with
    | some e => it g k e
    | none => none
/-- where a node and all behind it end -/
def oneF (l : List Nd) : Nat → Nat → Option Nat
  | 0, _ => none
  | f + 1, i => match l[i]? with
    | some n => it (oneF l f) n.kd.toNat (i + 1)
    | none => none

theorem one_ck (l : List Nd) : ∀ (f i m : Nat), l.length ≤ i + f → ck (l.drop i) i ((m : Int) + 1) = (0, 0) → ∃ e, oneF l f i = some e ∧ i < e ∧ e ≤ l.length ∧ ck (l.drop e) e m = (0, 0)
  | 0, i, m, hf, h => by
    rw [List.drop_of_length_le (by omega), ck, if_pos (by omega)] at h
    cases h
  | f + 1, i, m, hf, h => by
    by_cases hi : i < l.length
    · rw [List.drop_eq_getElem_cons hi, ck, if_neg (by omega)] at h
      by_cases hb : badN l[i] i
      · rw [if_pos hb] at h; cases h
      · rw [if_neg hb] at h
        have hkd : 0 ≤ l[i].kd := by unfold badN at hb; omega
        have key : ∀ (k p : Nat), i < p → ck (l.drop p) p ((m + k : Nat) : Int) = (0, 0) → p ≤ l.length → ∃ e, it (oneF l f) k p = some e ∧ i < e ∧ e ≤ l.length ∧ ck (l.drop e) e m = (0, 0) := by
          intro k
          induction k with
          | zero => intro p hp hc hl; exact ⟨p, rfl, hp, hl, by simpa using hc⟩
          | succ k ih =>
            intro p hp hc hl
            obtain ⟨e, h1, h2, h3, h4⟩ := one_ck l f p (m + k) (by omega) (by rw [← hc]; congr 1)
            obtain ⟨e', g1, g2, g3, g4⟩ := ih e (by omega) h4 h3
            exact ⟨e', by rw [it, h1]; exact g1, g2, g3, g4⟩
        obtain ⟨e, g1, g2, g3, g4⟩ := key l[i].kd.toNat (i + 1) (by omega) (by rw [← h]; congr 1; omega) (by omega)
        exact ⟨e, by rw [oneF, List.getElem?_eq_getElem hi]; exact g1, g2, g3, g4⟩
    · rw [List.drop_of_length_le (by omega), ck, if_pos (by omega)] at h
      simp only [Prod.mk.injEq] at h
      omega

/-- of a plan that may be the first node, and all behind it, is all of it -/
theorem one_all {l : List Nd} (h : ck l 0 1 = (0, 0)) : oneF l l.length 0 = some l.length := by
  obtain ⟨e, h1, h2, h3, h4⟩ := one_ck l l.length 0 0 (by omega) h
  have : e = l.length := by
    rcases Nat.lt_or_ge e l.length with hlt | hge
    · rw [List.drop_eq_getElem_cons hlt, ck, if_pos (by rfl)] at h4
      cases h4
    · omega
  rw [← this]; rw [← this] at h1; exact h1

theorem cf26 (a : List AVal) (st : ASt) : callFuncA E.P 37 a st = some (.enter 37 a st) := rfl
end Go.Proofs.YtnndngoanknemaaV
