/- law 03's fixed fact. No condition. -/
import Derived.Test.YtlpdplchcpkajaaDoorX14
namespace Go.Proofs.YtlpdplchcpkajaaDoorV
open Go Go.RowKit Go.Proofs.YtlpdplchcpkajaaDoorA
set_option linter.unusedVariables false
set_option linter.unusedSimpArgs false
set_option maxRecDepth 100000

theorem awakeL_k0 : (run E 30 24 [] st0).map Prod.fst = some (.returned (.lit (.bool true))) := by kernel_rfl
theorem awakeL : ∃ st1, rw E 24 [] st0 = some (.returned (.lit (.bool true)), st1) := by
  have h := awakeL_k0
  cases hr : run E 30 24 [] st0 with
  | none => rw [hr] at h; cases h
  | some r =>
    rw [hr] at h
    obtain ⟨r1, r2⟩ := r
    obtain rfl : r1 = _ := Option.some.inj h
    exact ⟨r2, rw_of hr⟩
end Go.Proofs.YtlpdplchcpkajaaDoorV
