/-
  No cell of these rows narrows 'for every input' (looked for: loops, veiled, ifaces, maps, wideKeys, modest, calm, conditions, laid).
  DERIVED. THE GIVEN ROWS OF THIS SEAT. 12 by the template 'for every input the law returns true; each argument reads behind the call as it read before'; 0 by the template 'total and deterministic' (their statements: YtjpehemkgikkdaaTotals.lean).
  GIVEN WITH THE SEED: the statements are not yours to turn. If you find one false, say at which input.
  Laid BY PROGRAM, IN A SANDBOX (cutbox-rows.mjs): the forced cells as the released guide's own fill.sh prints them over the translation f4f9dcb74ef65a6d… (all of the seat's roots in one cut). By AI agents, Wed Nov 11 2026. No macro, syntax, notation, axiom, sorry.
-/
import Derived.Test.YtjpehemkgikkdaaChecked
import GoSem.Claim
import GoSem.ClaimJoined
import GoSem.ClaimMapViews
import Derived.JoinedTies
import Derived.KernelRfl
namespace Go.Proofs.Ytjpehemkgikkdaa
/- THE CELL 'sum', in the pinned program and in every row, IS THE sha256 OF THE DUMP (.gsa) THAT YtjpehemkgikkdaaProg.lean LOADS. Nothing in Lean hashes anything: it is a label: what it is worth is what the hold of that sum in a sandbox is worth. -/
noncomputable def Try.pinned : Pinned := { name := "ytjpehemkgikkdaa", sum := "f4f9dcb74ef65a6d787140c974edeed7799c3347f6b28f2032af7aa9975e746a", checked := Try.checked }
namespace Rows
def none {H : Type} : Left H := { results := [], args := [] }

/-- 'braidworklaw01.WireApart': WHATEVER THE INPUT: true; the input reads as it did. -/
def wireApartSpec : ChangeSpec := { name := "wireApart", fn := fun _ => fun
  | [d1, d2, d3, d4] => { results := [.lit (.bool true)], args := [d1, d2, d3, d4] }
  | _ => none }
def wireApartRow : OpenClaim := { program := "ytjpehemkgikkdaa", sum := "f4f9dcb74ef65a6d787140c974edeed7799c3347f6b28f2032af7aa9975e746a", func := "braidwork/braidworklaw01.WireApart", spec := "wireApart", apart := false }
def WireApartSaid : Prop := wireApartRow.holds Try.pinned (OpenSpec.ofChange wireApartSpec)

/-- ITS FALSE NEIGHBOUR: 'it returns false'. Refute it at one input. -/
def wireApartWrong : ChangeSpec := { name := "wireApart", fn := fun _ => fun
  | [d1, d2, d3, d4] => { results := [.lit (.bool false)], args := [d1, d2, d3, d4] }
  | _ => none }
def WireApartWrongFalsely : Prop := wireApartRow.holds Try.pinned (OpenSpec.ofChange wireApartWrong)

/-- 'braidworklaw01.WirePuts': WHATEVER THE INPUT: true; the input reads as it did. -/
def wirePutsSpec : ChangeSpec := { name := "wirePuts", fn := fun _ => fun
  | [d] => { results := [.lit (.bool true)], args := [d] }
  | _ => none }
def wirePutsRow : OpenClaim := { program := "ytjpehemkgikkdaa", sum := "f4f9dcb74ef65a6d787140c974edeed7799c3347f6b28f2032af7aa9975e746a", func := "braidwork/braidworklaw01.WirePuts", spec := "wirePuts", recurses := true, apart := false }
def WirePutsSaid : Prop := wirePutsRow.holds Try.pinned (OpenSpec.ofChange wirePutsSpec)

/-- ITS FALSE NEIGHBOUR: 'it returns false'. Refute it at one input. -/
def wirePutsWrong : ChangeSpec := { name := "wirePuts", fn := fun _ => fun
  | [d] => { results := [.lit (.bool false)], args := [d] }
  | _ => none }
def WirePutsWrongFalsely : Prop := wirePutsRow.holds Try.pinned (OpenSpec.ofChange wirePutsWrong)

/-- 'braidworklaw01.WireSums': WHATEVER THE INPUT: true; the input reads as it did. -/
def wireSumsSpec : ChangeSpec := { name := "wireSums", fn := fun _ => fun
  | [d1, d2] => { results := [.lit (.bool true)], args := [d1, d2] }
  | _ => none }
def wireSumsRow : OpenClaim := { program := "ytjpehemkgikkdaa", sum := "f4f9dcb74ef65a6d787140c974edeed7799c3347f6b28f2032af7aa9975e746a", func := "braidwork/braidworklaw01.WireSums", spec := "wireSums", apart := false }
def WireSumsSaid : Prop := wireSumsRow.holds Try.pinned (OpenSpec.ofChange wireSumsSpec)

/-- ITS FALSE NEIGHBOUR: 'it returns false'. Refute it at one input. -/
def wireSumsWrong : ChangeSpec := { name := "wireSums", fn := fun _ => fun
  | [d1, d2] => { results := [.lit (.bool false)], args := [d1, d2] }
  | _ => none }
def WireSumsWrongFalsely : Prop := wireSumsRow.holds Try.pinned (OpenSpec.ofChange wireSumsWrong)

/-- 'braidworklaw17.PlanChecks': WHATEVER THE INPUT: true; the input reads as it did. -/
def planChecksSpec : ChangeSpec := { name := "planChecks", fn := fun _ => fun
  | [d] => { results := [.lit (.bool true)], args := [d] }
  | _ => none }
def planChecksRow : OpenClaim := { program := "ytjpehemkgikkdaa", sum := "f4f9dcb74ef65a6d787140c974edeed7799c3347f6b28f2032af7aa9975e746a", func := "braidwork/braidworklaw17.PlanChecks", spec := "planChecks", recurses := true, apart := false }
def PlanChecksSaid : Prop := planChecksRow.holds Try.pinned (OpenSpec.ofChange planChecksSpec)

/-- ITS FALSE NEIGHBOUR: 'it returns false'. Refute it at one input. -/
def planChecksWrong : ChangeSpec := { name := "planChecks", fn := fun _ => fun
  | [d] => { results := [.lit (.bool false)], args := [d] }
  | _ => none }
def PlanChecksWrongFalsely : Prop := planChecksRow.holds Try.pinned (OpenSpec.ofChange planChecksWrong)

/-- 'braidworklaw17.PlanTrees': WHATEVER THE INPUT: true; the input reads as it did. -/
def planTreesSpec : ChangeSpec := { name := "planTrees", fn := fun _ => fun
  | [d1, d2, d3, d4] => { results := [.lit (.bool true)], args := [d1, d2, d3, d4] }
  | _ => none }
def planTreesRow : OpenClaim := { program := "ytjpehemkgikkdaa", sum := "f4f9dcb74ef65a6d787140c974edeed7799c3347f6b28f2032af7aa9975e746a", func := "braidwork/braidworklaw17.PlanTrees", spec := "planTrees", recurses := true, apart := false }
def PlanTreesSaid : Prop := planTreesRow.holds Try.pinned (OpenSpec.ofChange planTreesSpec)

/-- ITS FALSE NEIGHBOUR: 'it returns false'. Refute it at one input. -/
def planTreesWrong : ChangeSpec := { name := "planTrees", fn := fun _ => fun
  | [d1, d2, d3, d4] => { results := [.lit (.bool false)], args := [d1, d2, d3, d4] }
  | _ => none }
def PlanTreesWrongFalsely : Prop := planTreesRow.holds Try.pinned (OpenSpec.ofChange planTreesWrong)

/-- 'braidworklaw17.PlanBig': WHATEVER THE INPUT: true; the input reads as it did. -/
def planBigSpec : ChangeSpec := { name := "planBig", fn := fun _ => fun
  | [d] => { results := [.lit (.bool true)], args := [d] }
  | _ => none }
def planBigRow : OpenClaim := { program := "ytjpehemkgikkdaa", sum := "f4f9dcb74ef65a6d787140c974edeed7799c3347f6b28f2032af7aa9975e746a", func := "braidwork/braidworklaw17.PlanBig", spec := "planBig", apart := false }
def PlanBigSaid : Prop := planBigRow.holds Try.pinned (OpenSpec.ofChange planBigSpec)

/-- ITS FALSE NEIGHBOUR: 'it returns false'. Refute it at one input. -/
def planBigWrong : ChangeSpec := { name := "planBig", fn := fun _ => fun
  | [d] => { results := [.lit (.bool false)], args := [d] }
  | _ => none }
def PlanBigWrongFalsely : Prop := planBigRow.holds Try.pinned (OpenSpec.ofChange planBigWrong)

/-- 'braidworklaw01.WireLong': WHATEVER THE INPUT: true; the input reads as it did. -/
def wireLongSpec : ChangeSpec := { name := "wireLong", fn := fun _ => fun
  | [d] => { results := [.lit (.bool true)], args := [d] }
  | _ => none }
def wireLongRow : OpenClaim := { program := "ytjpehemkgikkdaa", sum := "f4f9dcb74ef65a6d787140c974edeed7799c3347f6b28f2032af7aa9975e746a", func := "braidwork/braidworklaw01.WireLong", spec := "wireLong", apart := false }
def WireLongSaid : Prop := wireLongRow.holds Try.pinned (OpenSpec.ofChange wireLongSpec)

/-- ITS FALSE NEIGHBOUR: 'it returns false'. Refute it at one input. -/
def wireLongWrong : ChangeSpec := { name := "wireLong", fn := fun _ => fun
  | [d] => { results := [.lit (.bool false)], args := [d] }
  | _ => none }
def WireLongWrongFalsely : Prop := wireLongRow.holds Try.pinned (OpenSpec.ofChange wireLongWrong)

/-- 'braidworklaw17.PlanPaths': WHATEVER THE INPUT: true; the input reads as it did. -/
def planPathsSpec : ChangeSpec := { name := "planPaths", fn := fun _ => fun
  | [d] => { results := [.lit (.bool true)], args := [d] }
  | _ => none }
def planPathsRow : OpenClaim := { program := "ytjpehemkgikkdaa", sum := "f4f9dcb74ef65a6d787140c974edeed7799c3347f6b28f2032af7aa9975e746a", func := "braidwork/braidworklaw17.PlanPaths", spec := "planPaths", apart := false }
def PlanPathsSaid : Prop := planPathsRow.holds Try.pinned (OpenSpec.ofChange planPathsSpec)

/-- ITS FALSE NEIGHBOUR: 'it returns false'. Refute it at one input. -/
def planPathsWrong : ChangeSpec := { name := "planPaths", fn := fun _ => fun
  | [d] => { results := [.lit (.bool false)], args := [d] }
  | _ => none }
def PlanPathsWrongFalsely : Prop := planPathsRow.holds Try.pinned (OpenSpec.ofChange planPathsWrong)

/-- 'braidworklaw01.WireOne': WHATEVER THE INPUT: true; the input reads as it did. -/
def wireOneSpec : ChangeSpec := { name := "wireOne", fn := fun _ => fun
  | [d1, d2, d3, d4] => { results := [.lit (.bool true)], args := [d1, d2, d3, d4] }
  | _ => none }
def wireOneRow : OpenClaim := { program := "ytjpehemkgikkdaa", sum := "f4f9dcb74ef65a6d787140c974edeed7799c3347f6b28f2032af7aa9975e746a", func := "braidwork/braidworklaw01.WireOne", spec := "wireOne", apart := false }
def WireOneSaid : Prop := wireOneRow.holds Try.pinned (OpenSpec.ofChange wireOneSpec)

/-- ITS FALSE NEIGHBOUR: 'it returns false'. Refute it at one input. -/
def wireOneWrong : ChangeSpec := { name := "wireOne", fn := fun _ => fun
  | [d1, d2, d3, d4] => { results := [.lit (.bool false)], args := [d1, d2, d3, d4] }
  | _ => none }
def WireOneWrongFalsely : Prop := wireOneRow.holds Try.pinned (OpenSpec.ofChange wireOneWrong)

/-- 'braidworklaw17.PlanLinks': WHATEVER THE INPUT: true; the input reads as it did. -/
def planLinksSpec : ChangeSpec := { name := "planLinks", fn := fun _ => fun
  | [d1, d2] => { results := [.lit (.bool true)], args := [d1, d2] }
  | _ => none }
def planLinksRow : OpenClaim := { program := "ytjpehemkgikkdaa", sum := "f4f9dcb74ef65a6d787140c974edeed7799c3347f6b28f2032af7aa9975e746a", func := "braidwork/braidworklaw17.PlanLinks", spec := "planLinks", recurses := true, apart := false }
def PlanLinksSaid : Prop := planLinksRow.holds Try.pinned (OpenSpec.ofChange planLinksSpec)

/-- ITS FALSE NEIGHBOUR: 'it returns false'. Refute it at one input. -/
def planLinksWrong : ChangeSpec := { name := "planLinks", fn := fun _ => fun
  | [d1, d2] => { results := [.lit (.bool false)], args := [d1, d2] }
  | _ => none }
def PlanLinksWrongFalsely : Prop := planLinksRow.holds Try.pinned (OpenSpec.ofChange planLinksWrong)

/-- 'braidworklaw01.WireTakes': WHATEVER THE INPUT: true; the input reads as it did. -/
def wireTakesSpec : ChangeSpec := { name := "wireTakes", fn := fun _ => fun
  | [d1, d2] => { results := [.lit (.bool true)], args := [d1, d2] }
  | _ => none }
def wireTakesRow : OpenClaim := { program := "ytjpehemkgikkdaa", sum := "f4f9dcb74ef65a6d787140c974edeed7799c3347f6b28f2032af7aa9975e746a", func := "braidwork/braidworklaw01.WireTakes", spec := "wireTakes", apart := false }
def WireTakesSaid : Prop := wireTakesRow.holds Try.pinned (OpenSpec.ofChange wireTakesSpec)

/-- ITS FALSE NEIGHBOUR: 'it returns false'. Refute it at one input. -/
def wireTakesWrong : ChangeSpec := { name := "wireTakes", fn := fun _ => fun
  | [d1, d2] => { results := [.lit (.bool false)], args := [d1, d2] }
  | _ => none }
def WireTakesWrongFalsely : Prop := wireTakesRow.holds Try.pinned (OpenSpec.ofChange wireTakesWrong)

/-- 'braidworklaw01.WireBack': WHATEVER THE INPUT: true; the input reads as it did. -/
def wireBackSpec : ChangeSpec := { name := "wireBack", fn := fun _ => fun
  | [d] => { results := [.lit (.bool true)], args := [d] }
  | _ => none }
def wireBackRow : OpenClaim := { program := "ytjpehemkgikkdaa", sum := "f4f9dcb74ef65a6d787140c974edeed7799c3347f6b28f2032af7aa9975e746a", func := "braidwork/braidworklaw01.WireBack", spec := "wireBack", apart := false }
def WireBackSaid : Prop := wireBackRow.holds Try.pinned (OpenSpec.ofChange wireBackSpec)

/-- ITS FALSE NEIGHBOUR: 'it returns false'. Refute it at one input. -/
def wireBackWrong : ChangeSpec := { name := "wireBack", fn := fun _ => fun
  | [d] => { results := [.lit (.bool false)], args := [d] }
  | _ => none }
def WireBackWrongFalsely : Prop := wireBackRow.holds Try.pinned (OpenSpec.ofChange wireBackWrong)

/- THE SECOND FORM. 'bulk': how many values and letters a reading holds, each counted each time it is reached (what is shared counts as often as it is met; a slice's spare places count too). A statement '..UptoSaid' is the law's where the arguments, and the package variables that the reading takes, are together of bulk at most 1048576: NARROWER than '..Said'. Prove '..Said' where nothing that the law and all that it calls make is longer than what came in: it says more and counts as full. Else prove '..UptoSaid'. A law counts once. -/
mutual
def uptoBulk {H : Type} : DataW H → Nat
  | .lit (.string bytes) => bytes.length + 1
  | .lit _ => 1
  | .nil => 1
  | .ptr d => uptoBulk d + 1
  | .slice elems spare => uptoBulkAll elems + uptoBulkAll spare + 1
  | .agg parts => uptoBulkAll parts + 1
  | .iface _ d => uptoBulk d + 1
  | .map entries => uptoBulkEntries entries + 1
  | .held _ => 1
def uptoBulkAll {H : Type} : List (DataW H) → Nat
  | [] => 0
  | d :: r => uptoBulk d + uptoBulkAll r
def uptoBulkEntries {H : Type} : List (Lit × DataW H) → Nat
  | [] => 0
  | x :: r => uptoBulkEntry x + uptoBulkEntries r
def uptoBulkEntry {H : Type} : Lit × DataW H → Nat
  | (.string bytes, d) => bytes.length + uptoBulk d + 1
  | (_, d) => uptoBulk d + 1
 end
def uptoSmall : (H : Type) → List (DataW H) → Bool := fun _ ds => decide (uptoBulkAll ds ≤ 1048576)
def OpenSpec.upto (s : _root_.Go.ChangeSpec) : _root_.Go.OpenSpec := { _root_.Go.OpenSpec.ofChange s with cond := some uptoSmall }

/-- 'braidworklaw01.WireApart', WHERE WHAT IT READS IS OF BULK AT MOST 1048576: true; the input reads as it did. -/
def wireApartUptoRow : OpenClaim := { program := "ytjpehemkgikkdaa", sum := "f4f9dcb74ef65a6d787140c974edeed7799c3347f6b28f2032af7aa9975e746a", func := "braidwork/braidworklaw01.WireApart", spec := "wireApart", apart := false, narrowed := true }
def WireApartUptoSaid : Prop := wireApartUptoRow.holds Try.pinned (OpenSpec.upto wireApartSpec)

/-- 'braidworklaw01.WirePuts', WHERE WHAT IT READS IS OF BULK AT MOST 1048576: true; the input reads as it did. -/
def wirePutsUptoRow : OpenClaim := { program := "ytjpehemkgikkdaa", sum := "f4f9dcb74ef65a6d787140c974edeed7799c3347f6b28f2032af7aa9975e746a", func := "braidwork/braidworklaw01.WirePuts", spec := "wirePuts", recurses := true, apart := false, narrowed := true }
def WirePutsUptoSaid : Prop := wirePutsUptoRow.holds Try.pinned (OpenSpec.upto wirePutsSpec)

/-- 'braidworklaw01.WireSums', WHERE WHAT IT READS IS OF BULK AT MOST 1048576: true; the input reads as it did. -/
def wireSumsUptoRow : OpenClaim := { program := "ytjpehemkgikkdaa", sum := "f4f9dcb74ef65a6d787140c974edeed7799c3347f6b28f2032af7aa9975e746a", func := "braidwork/braidworklaw01.WireSums", spec := "wireSums", apart := false, narrowed := true }
def WireSumsUptoSaid : Prop := wireSumsUptoRow.holds Try.pinned (OpenSpec.upto wireSumsSpec)

/-- 'braidworklaw17.PlanChecks', WHERE WHAT IT READS IS OF BULK AT MOST 1048576: true; the input reads as it did. -/
def planChecksUptoRow : OpenClaim := { program := "ytjpehemkgikkdaa", sum := "f4f9dcb74ef65a6d787140c974edeed7799c3347f6b28f2032af7aa9975e746a", func := "braidwork/braidworklaw17.PlanChecks", spec := "planChecks", recurses := true, apart := false, narrowed := true }
def PlanChecksUptoSaid : Prop := planChecksUptoRow.holds Try.pinned (OpenSpec.upto planChecksSpec)

/-- 'braidworklaw17.PlanTrees', WHERE WHAT IT READS IS OF BULK AT MOST 1048576: true; the input reads as it did. -/
def planTreesUptoRow : OpenClaim := { program := "ytjpehemkgikkdaa", sum := "f4f9dcb74ef65a6d787140c974edeed7799c3347f6b28f2032af7aa9975e746a", func := "braidwork/braidworklaw17.PlanTrees", spec := "planTrees", recurses := true, apart := false, narrowed := true }
def PlanTreesUptoSaid : Prop := planTreesUptoRow.holds Try.pinned (OpenSpec.upto planTreesSpec)

/-- 'braidworklaw17.PlanBig', WHERE WHAT IT READS IS OF BULK AT MOST 1048576: true; the input reads as it did. -/
def planBigUptoRow : OpenClaim := { program := "ytjpehemkgikkdaa", sum := "f4f9dcb74ef65a6d787140c974edeed7799c3347f6b28f2032af7aa9975e746a", func := "braidwork/braidworklaw17.PlanBig", spec := "planBig", apart := false, narrowed := true }
def PlanBigUptoSaid : Prop := planBigUptoRow.holds Try.pinned (OpenSpec.upto planBigSpec)

/-- 'braidworklaw01.WireLong', WHERE WHAT IT READS IS OF BULK AT MOST 1048576: true; the input reads as it did. -/
def wireLongUptoRow : OpenClaim := { program := "ytjpehemkgikkdaa", sum := "f4f9dcb74ef65a6d787140c974edeed7799c3347f6b28f2032af7aa9975e746a", func := "braidwork/braidworklaw01.WireLong", spec := "wireLong", apart := false, narrowed := true }
def WireLongUptoSaid : Prop := wireLongUptoRow.holds Try.pinned (OpenSpec.upto wireLongSpec)

/-- 'braidworklaw17.PlanPaths', WHERE WHAT IT READS IS OF BULK AT MOST 1048576: true; the input reads as it did. -/
def planPathsUptoRow : OpenClaim := { program := "ytjpehemkgikkdaa", sum := "f4f9dcb74ef65a6d787140c974edeed7799c3347f6b28f2032af7aa9975e746a", func := "braidwork/braidworklaw17.PlanPaths", spec := "planPaths", apart := false, narrowed := true }
def PlanPathsUptoSaid : Prop := planPathsUptoRow.holds Try.pinned (OpenSpec.upto planPathsSpec)

/-- 'braidworklaw01.WireOne', WHERE WHAT IT READS IS OF BULK AT MOST 1048576: true; the input reads as it did. -/
def wireOneUptoRow : OpenClaim := { program := "ytjpehemkgikkdaa", sum := "f4f9dcb74ef65a6d787140c974edeed7799c3347f6b28f2032af7aa9975e746a", func := "braidwork/braidworklaw01.WireOne", spec := "wireOne", apart := false, narrowed := true }
def WireOneUptoSaid : Prop := wireOneUptoRow.holds Try.pinned (OpenSpec.upto wireOneSpec)

/-- 'braidworklaw17.PlanLinks', WHERE WHAT IT READS IS OF BULK AT MOST 1048576: true; the input reads as it did. -/
def planLinksUptoRow : OpenClaim := { program := "ytjpehemkgikkdaa", sum := "f4f9dcb74ef65a6d787140c974edeed7799c3347f6b28f2032af7aa9975e746a", func := "braidwork/braidworklaw17.PlanLinks", spec := "planLinks", recurses := true, apart := false, narrowed := true }
def PlanLinksUptoSaid : Prop := planLinksUptoRow.holds Try.pinned (OpenSpec.upto planLinksSpec)

/-- 'braidworklaw01.WireTakes', WHERE WHAT IT READS IS OF BULK AT MOST 1048576: true; the input reads as it did. -/
def wireTakesUptoRow : OpenClaim := { program := "ytjpehemkgikkdaa", sum := "f4f9dcb74ef65a6d787140c974edeed7799c3347f6b28f2032af7aa9975e746a", func := "braidwork/braidworklaw01.WireTakes", spec := "wireTakes", apart := false, narrowed := true }
def WireTakesUptoSaid : Prop := wireTakesUptoRow.holds Try.pinned (OpenSpec.upto wireTakesSpec)

/-- 'braidworklaw01.WireBack', WHERE WHAT IT READS IS OF BULK AT MOST 1048576: true; the input reads as it did. -/
def wireBackUptoRow : OpenClaim := { program := "ytjpehemkgikkdaa", sum := "f4f9dcb74ef65a6d787140c974edeed7799c3347f6b28f2032af7aa9975e746a", func := "braidwork/braidworklaw01.WireBack", spec := "wireBack", apart := false, narrowed := true }
def WireBackUptoSaid : Prop := wireBackUptoRow.holds Try.pinned (OpenSpec.upto wireBackSpec)

end Rows
end Go.Proofs.Ytjpehemkgikkdaa
