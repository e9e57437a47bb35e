/- Calls of a reader's functions are entered. No condition. -/
import Derived.Test.YtjpehemkgikkdaaRA
namespace Go.Proofs.YtjpehemkgikkdaaV
open Go Go.RowKit Go.Proofs.YtjpehemkgikkdaaA
theorem cf42 (a : List AVal) (st : ASt) : callFuncA E.P 42 a st = some (.enter 42 a st) := rfl
theorem cf35 (a : List AVal) (st : ASt) : callFuncA E.P 35 a st = some (.enter 35 a st) := rfl
theorem cf36 (a : List AVal) (st : ASt) : callFuncA E.P 36 a st = some (.enter 36 a st) := rfl
theorem cf37 (a : List AVal) (st : ASt) : callFuncA E.P 37 a st = some (.enter 37 a st) := rfl
theorem cf38 (a : List AVal) (st : ASt) : callFuncA E.P 38 a st = some (.enter 38 a st) := rfl

end Go.Proofs.YtjpehemkgikkdaaV
