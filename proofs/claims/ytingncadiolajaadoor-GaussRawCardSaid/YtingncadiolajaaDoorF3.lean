/- law02's Awake, reckoned. No condition. -/
import Derived.Test.YtingncadiolajaaDoorF2
namespace Go.Proofs.YtingncadiolajaaDoorV
open Go Go.RowKit Go.Proofs.YtingncadiolajaaDoorA
set_option linter.unusedVariables false
set_option linter.unusedSimpArgs false
set_option maxRecDepth 100000

theorem awake_n3 (h : Nat → Option Blk) : (run E 12 9 [] ⟨h, 3⟩).map Prod.fst = some (.returned (.lit (.bool true))) := by kernel_rfl
end Go.Proofs.YtingncadiolajaaDoorV
