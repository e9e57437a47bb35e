/- A scope with a goto back. No condition. -/
import Derived.Test.YtjpehemkgikkdaaA20
namespace Go.Proofs.YtjpehemkgikkdaaA
open Go Go.RowKit
set_option linter.unusedVariables false

theorem ascope_rule {fr : Nat → List AVal → ASt → ARes} {code rest : Code} {l : Nat} (hl : findLabel code l = some rest) (I : Nat → List AVal → ASt → Prop) (Q : AExit → List AVal → ASt → Prop)
    (step : ∀ i ts st, I i ts st → (∃ ts' st', fr l ts st = some (.goto l, ts', st') ∧ ∃ j, j < i ∧ I j ts' st') ∨ (∃ e ts' st', fr l ts st = some (e, ts', st') ∧ (∀ l', e ≠ .goto l') ∧ Q e ts' st')) :
    ∀ n i ts st, I i ts st → i < n → ∃ e ts' st', ascope fr code n (fr l ts st) = some (e, ts', st') ∧ Q e ts' st'
  | 0, i, ts, st, h, hn => by omega
  | n + 1, i, ts, st, h, hn => by
    rcases step i ts st h with ⟨ts', st', e, j, hj, hI⟩ | ⟨e, ts', st', h1, h2, h3⟩
    · obtain ⟨e2, ts2, st2, a, q⟩ := ascope_rule hl I Q step n j ts' st' hI (by omega)
      exact ⟨e2, ts2, st2, by rw [e, ascope]; simp only [hl]; exact a, q⟩
    · refine ⟨e, ts', st', ?_, h3⟩
      rw [h1]
      cases e <;> first | rfl | exact absurd rfl (h2 _)

end Go.Proofs.YtjpehemkgikkdaaA
