/- law 04's fixed fact; a kind's number, by cases. No condition. -/
import Derived.Test.YtpgcbmmifmnfpaaDoorEA
import Derived.Test.YtpgcbmmifmnfpaaDoorAK
namespace Go.Proofs.YtpgcbmmifmnfpaaDoorV
open Go Go.RowKit Go.Proofs.YtpgcbmmifmnfpaaDoorA
set_option linter.unusedVariables false
set_option linter.unusedSimpArgs false
set_option maxRecDepth 100000

theorem awakeT_k0 : (run E 60 6 [] st0).map Prod.fst = some (.returned (.lit (.bool true))) := by kernel_rfl
theorem awakeT : ∃ st1, rw E 6 [] st0 = some (.returned (.lit (.bool true)), st1) := by
  have h := awakeT_k0
  cases hr : run E 60 6 [] st0 with
  | none => rw [hr] at h; cases h
  | some r =>
    rw [hr] at h
    obtain ⟨r1, r2⟩ := r
    obtain rfl : r1 = _ := Option.some.inj h
    exact ⟨r2, rw_of hr⟩
end Go.Proofs.YtpgcbmmifmnfpaaDoorV
