/- Calls of a reader's functions are entered. No condition. -/
import Derived.Test.YtnndngoanknemaaRA
namespace Go.Proofs.YtnndngoanknemaaV
open Go Go.RowKit Go.Proofs.YtnndngoanknemaaA
theorem cf42 (a : List AVal) (st : ASt) : callFuncA E.P 29 a st = some (.enter 29 a st) := rfl
theorem cf35 (a : List AVal) (st : ASt) : callFuncA E.P 41 a st = some (.enter 41 a st) := rfl
theorem cf36 (a : List AVal) (st : ASt) : callFuncA E.P 32 a st = some (.enter 32 a st) := rfl
theorem cf37 (a : List AVal) (st : ASt) : callFuncA E.P 42 a st = some (.enter 42 a st) := rfl
theorem cf38 (a : List AVal) (st : ASt) : callFuncA E.P 31 a st = some (.enter 31 a st) := rfl

end Go.Proofs.YtnndngoanknemaaV
