/- The laws' own check of a plan: its contract. No condition. -/
import Derived.Test.YtnndngoanknemaaN2
namespace Go.Proofs.YtnndngoanknemaaV
open Go Go.RowKit Go.Proofs.YtnndngoanknemaaA
set_option linter.unusedVariables false
set_option linter.unusedSimpArgs false
set_option maxRecDepth 100000

end Go.Proofs.YtnndngoanknemaaV
