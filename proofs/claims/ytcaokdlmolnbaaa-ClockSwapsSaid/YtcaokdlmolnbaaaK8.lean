/- Clock's Awake. No condition. -/
import Derived.Test.YtcaokdlmolnbaaaK3
import Derived.Test.YtcaokdlmolnbaaaK7
namespace Go.Proofs.YtcaokdlmolnbaaaV
open Go Go.RowKit Go.Proofs.YtcaokdlmolnbaaaA
set_option linter.unusedVariables false
set_option linter.unusedSimpArgs false
set_option maxRecDepth 100000
theorem awake11_k0 : (run E 20 21 [] st0).map Prod.fst = some (.returned (.lit (.bool true))) := by kernel_rfl
theorem awake11 : ∃ st1, rw E 21 [] st0 = some (.returned (.lit (.bool true)), st1) := by
  have h := awake11_k0
  cases hr : run E 20 21 [] st0 with
  | none => rw [hr] at h; cases h
  | some r =>
    rw [hr] at h
    obtain ⟨r1, r2⟩ := r
    obtain rfl : r1 = _ := Option.some.inj h
    exact ⟨r2, rw_of hr⟩
end Go.Proofs.YtcaokdlmolnbaaaV
