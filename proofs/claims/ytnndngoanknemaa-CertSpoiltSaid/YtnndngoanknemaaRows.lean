/-
  No cell of these rows narrows 'for every input' (looked for: loops, veiled, ifaces, maps, wideKeys, modest, calm, conditions, laid).
  DERIVED. THE GIVEN ROWS OF THIS SEAT. 6 by the template 'for every input the law returns true; each argument reads behind the call as it read before'; 0 by the template 'total and deterministic' (their statements: YtnndngoanknemaaTotals.lean).
  GIVEN WITH THE SEED: the statements are not yours to turn. If you find one false, say at which input.
  Laid BY PROGRAM, IN A SANDBOX (cutbox-rows.mjs): the forced cells as the released guide's own fill.sh prints them over the translation a347c01dd993d201… (all of the seat's roots in one cut). By AI agents, Wed Nov 11 2026. No macro, syntax, notation, axiom, sorry.
-/
import Derived.Test.YtnndngoanknemaaChecked
import GoSem.Claim
import GoSem.ClaimJoined
import GoSem.ClaimMapViews
import Derived.JoinedTies
import Derived.KernelRfl
namespace Go.Proofs.Ytnndngoanknemaa
/- THE CELL 'sum', in the pinned program and in every row, IS THE sha256 OF THE DUMP (.gsa) THAT YtnndngoanknemaaProg.lean LOADS. Nothing in Lean hashes anything: it is a label: what it is worth is what the hold of that sum in a sandbox is worth. -/
noncomputable def Try.pinned : Pinned := { name := "ytnndngoanknemaa", sum := "a347c01dd993d201db6dc65d038fce8a5b62597cc7780fb38c4e218ed8336546", checked := Try.checked }
namespace Rows
def none {H : Type} : Left H := { results := [], args := [] }

/-- 'braidworklaw18.CertLong': WHATEVER THE INPUT: true; the input reads as it did. -/
def certLongSpec : ChangeSpec := { name := "certLong", fn := fun _ => fun
  | [d1, d2] => { results := [.lit (.bool true)], args := [d1, d2] }
  | _ => none }
def certLongRow : OpenClaim := { program := "ytnndngoanknemaa", sum := "a347c01dd993d201db6dc65d038fce8a5b62597cc7780fb38c4e218ed8336546", func := "braidwork/braidworklaw18.CertLong", spec := "certLong", apart := false }
def CertLongSaid : Prop := certLongRow.holds Try.pinned (OpenSpec.ofChange certLongSpec)

/-- ITS FALSE NEIGHBOUR: 'it returns false'. Refute it at one input. -/
def certLongWrong : ChangeSpec := { name := "certLong", fn := fun _ => fun
  | [d1, d2] => { results := [.lit (.bool false)], args := [d1, d2] }
  | _ => none }
def CertLongWrongFalsely : Prop := certLongRow.holds Try.pinned (OpenSpec.ofChange certLongWrong)

/-- 'braidworklaw18.CertApart': WHATEVER THE INPUT: true; the input reads as it did. -/
def certApartSpec : ChangeSpec := { name := "certApart", fn := fun _ => fun
  | [d1, d2, d3, d4, d5] => { results := [.lit (.bool true)], args := [d1, d2, d3, d4, d5] }
  | _ => none }
def certApartRow : OpenClaim := { program := "ytnndngoanknemaa", sum := "a347c01dd993d201db6dc65d038fce8a5b62597cc7780fb38c4e218ed8336546", func := "braidwork/braidworklaw18.CertApart", spec := "certApart", apart := false }
def CertApartSaid : Prop := certApartRow.holds Try.pinned (OpenSpec.ofChange certApartSpec)

/-- ITS FALSE NEIGHBOUR: 'it returns false'. Refute it at one input. -/
def certApartWrong : ChangeSpec := { name := "certApart", fn := fun _ => fun
  | [d1, d2, d3, d4, d5] => { results := [.lit (.bool false)], args := [d1, d2, d3, d4, d5] }
  | _ => none }
def CertApartWrongFalsely : Prop := certApartRow.holds Try.pinned (OpenSpec.ofChange certApartWrong)

/-- 'braidworklaw18.CertTurned': WHATEVER THE INPUT: true; the input reads as it did. -/
def certTurnedSpec : ChangeSpec := { name := "certTurned", fn := fun _ => fun
  | [d1, d2, d3, d4, d5] => { results := [.lit (.bool true)], args := [d1, d2, d3, d4, d5] }
  | _ => none }
def certTurnedRow : OpenClaim := { program := "ytnndngoanknemaa", sum := "a347c01dd993d201db6dc65d038fce8a5b62597cc7780fb38c4e218ed8336546", func := "braidwork/braidworklaw18.CertTurned", spec := "certTurned", apart := false }
def CertTurnedSaid : Prop := certTurnedRow.holds Try.pinned (OpenSpec.ofChange certTurnedSpec)

/-- ITS FALSE NEIGHBOUR: 'it returns false'. Refute it at one input. -/
def certTurnedWrong : ChangeSpec := { name := "certTurned", fn := fun _ => fun
  | [d1, d2, d3, d4, d5] => { results := [.lit (.bool false)], args := [d1, d2, d3, d4, d5] }
  | _ => none }
def CertTurnedWrongFalsely : Prop := certTurnedRow.holds Try.pinned (OpenSpec.ofChange certTurnedWrong)

/-- 'braidworklaw18.CertBack': WHATEVER THE INPUT: true; the input reads as it did. -/
def certBackSpec : ChangeSpec := { name := "certBack", fn := fun _ => fun
  | [d1, d2] => { results := [.lit (.bool true)], args := [d1, d2] }
  | _ => none }
def certBackRow : OpenClaim := { program := "ytnndngoanknemaa", sum := "a347c01dd993d201db6dc65d038fce8a5b62597cc7780fb38c4e218ed8336546", func := "braidwork/braidworklaw18.CertBack", spec := "certBack", recurses := true, apart := false }
def CertBackSaid : Prop := certBackRow.holds Try.pinned (OpenSpec.ofChange certBackSpec)

/-- ITS FALSE NEIGHBOUR: 'it returns false'. Refute it at one input. -/
def certBackWrong : ChangeSpec := { name := "certBack", fn := fun _ => fun
  | [d1, d2] => { results := [.lit (.bool false)], args := [d1, d2] }
  | _ => none }
def CertBackWrongFalsely : Prop := certBackRow.holds Try.pinned (OpenSpec.ofChange certBackWrong)

/-- 'braidworklaw18.CertDecodes': WHATEVER THE INPUT: true; the input reads as it did. -/
def certDecodesSpec : ChangeSpec := { name := "certDecodes", fn := fun _ => fun
  | [d1, d2, d3] => { results := [.lit (.bool true)], args := [d1, d2, d3] }
  | _ => none }
def certDecodesRow : OpenClaim := { program := "ytnndngoanknemaa", sum := "a347c01dd993d201db6dc65d038fce8a5b62597cc7780fb38c4e218ed8336546", func := "braidwork/braidworklaw18.CertDecodes", spec := "certDecodes", apart := false }
def CertDecodesSaid : Prop := certDecodesRow.holds Try.pinned (OpenSpec.ofChange certDecodesSpec)

/-- ITS FALSE NEIGHBOUR: 'it returns false'. Refute it at one input. -/
def certDecodesWrong : ChangeSpec := { name := "certDecodes", fn := fun _ => fun
  | [d1, d2, d3] => { results := [.lit (.bool false)], args := [d1, d2, d3] }
  | _ => none }
def CertDecodesWrongFalsely : Prop := certDecodesRow.holds Try.pinned (OpenSpec.ofChange certDecodesWrong)

/-- 'braidworklaw18.CertSpoilt': WHATEVER THE INPUT: true; the input reads as it did. -/
def certSpoiltSpec : ChangeSpec := { name := "certSpoilt", fn := fun _ => fun
  | [d1, d2, d3, d4, d5, d6] => { results := [.lit (.bool true)], args := [d1, d2, d3, d4, d5, d6] }
  | _ => none }
def certSpoiltRow : OpenClaim := { program := "ytnndngoanknemaa", sum := "a347c01dd993d201db6dc65d038fce8a5b62597cc7780fb38c4e218ed8336546", func := "braidwork/braidworklaw18.CertSpoilt", spec := "certSpoilt", recurses := true, apart := false }
def CertSpoiltSaid : Prop := certSpoiltRow.holds Try.pinned (OpenSpec.ofChange certSpoiltSpec)

/-- ITS FALSE NEIGHBOUR: 'it returns false'. Refute it at one input. -/
def certSpoiltWrong : ChangeSpec := { name := "certSpoilt", fn := fun _ => fun
  | [d1, d2, d3, d4, d5, d6] => { results := [.lit (.bool false)], args := [d1, d2, d3, d4, d5, d6] }
  | _ => none }
def CertSpoiltWrongFalsely : Prop := certSpoiltRow.holds Try.pinned (OpenSpec.ofChange certSpoiltWrong)

/- THE SECOND FORM. 'bulk': how many values and letters a reading holds, each counted each time it is reached (what is shared counts as often as it is met; a slice's spare places count too). A statement '..UptoSaid' is the law's where the arguments, and the package variables that the reading takes, are together of bulk at most 1048576: NARROWER than '..Said'. Prove '..Said' where nothing that the law and all that it calls make is longer than what came in: it says more and counts as full. Else prove '..UptoSaid'. A law counts once. -/
mutual
def uptoBulk {H : Type} : DataW H → Nat
  | .lit (.string bytes) => bytes.length + 1
  | .lit _ => 1
  | .nil => 1
  | .ptr d => uptoBulk d + 1
  | .slice elems spare => uptoBulkAll elems + uptoBulkAll spare + 1
  | .agg parts => uptoBulkAll parts + 1
  | .iface _ d => uptoBulk d + 1
  | .map entries => uptoBulkEntries entries + 1
  | .held _ => 1
def uptoBulkAll {H : Type} : List (DataW H) → Nat
  | [] => 0
  | d :: r => uptoBulk d + uptoBulkAll r
def uptoBulkEntries {H : Type} : List (Lit × DataW H) → Nat
  | [] => 0
  | x :: r => uptoBulkEntry x + uptoBulkEntries r
def uptoBulkEntry {H : Type} : Lit × DataW H → Nat
  | (.string bytes, d) => bytes.length + uptoBulk d + 1
  | (_, d) => uptoBulk d + 1
 end
def uptoSmall : (H : Type) → List (DataW H) → Bool := fun _ ds => decide (uptoBulkAll ds ≤ 1048576)
def OpenSpec.upto (s : _root_.Go.ChangeSpec) : _root_.Go.OpenSpec := { _root_.Go.OpenSpec.ofChange s with cond := some uptoSmall }

/-- 'braidworklaw18.CertLong', WHERE WHAT IT READS IS OF BULK AT MOST 1048576: true; the input reads as it did. -/
def certLongUptoRow : OpenClaim := { program := "ytnndngoanknemaa", sum := "a347c01dd993d201db6dc65d038fce8a5b62597cc7780fb38c4e218ed8336546", func := "braidwork/braidworklaw18.CertLong", spec := "certLong", apart := false, narrowed := true }
def CertLongUptoSaid : Prop := certLongUptoRow.holds Try.pinned (OpenSpec.upto certLongSpec)

/-- 'braidworklaw18.CertApart', WHERE WHAT IT READS IS OF BULK AT MOST 1048576: true; the input reads as it did. -/
def certApartUptoRow : OpenClaim := { program := "ytnndngoanknemaa", sum := "a347c01dd993d201db6dc65d038fce8a5b62597cc7780fb38c4e218ed8336546", func := "braidwork/braidworklaw18.CertApart", spec := "certApart", apart := false, narrowed := true }
def CertApartUptoSaid : Prop := certApartUptoRow.holds Try.pinned (OpenSpec.upto certApartSpec)

/-- 'braidworklaw18.CertTurned', WHERE WHAT IT READS IS OF BULK AT MOST 1048576: true; the input reads as it did. -/
def certTurnedUptoRow : OpenClaim := { program := "ytnndngoanknemaa", sum := "a347c01dd993d201db6dc65d038fce8a5b62597cc7780fb38c4e218ed8336546", func := "braidwork/braidworklaw18.CertTurned", spec := "certTurned", apart := false, narrowed := true }
def CertTurnedUptoSaid : Prop := certTurnedUptoRow.holds Try.pinned (OpenSpec.upto certTurnedSpec)

/-- 'braidworklaw18.CertBack', WHERE WHAT IT READS IS OF BULK AT MOST 1048576: true; the input reads as it did. -/
def certBackUptoRow : OpenClaim := { program := "ytnndngoanknemaa", sum := "a347c01dd993d201db6dc65d038fce8a5b62597cc7780fb38c4e218ed8336546", func := "braidwork/braidworklaw18.CertBack", spec := "certBack", recurses := true, apart := false, narrowed := true }
def CertBackUptoSaid : Prop := certBackUptoRow.holds Try.pinned (OpenSpec.upto certBackSpec)

/-- 'braidworklaw18.CertDecodes', WHERE WHAT IT READS IS OF BULK AT MOST 1048576: true; the input reads as it did. -/
def certDecodesUptoRow : OpenClaim := { program := "ytnndngoanknemaa", sum := "a347c01dd993d201db6dc65d038fce8a5b62597cc7780fb38c4e218ed8336546", func := "braidwork/braidworklaw18.CertDecodes", spec := "certDecodes", apart := false, narrowed := true }
def CertDecodesUptoSaid : Prop := certDecodesUptoRow.holds Try.pinned (OpenSpec.upto certDecodesSpec)

/-- 'braidworklaw18.CertSpoilt', WHERE WHAT IT READS IS OF BULK AT MOST 1048576: true; the input reads as it did. -/
def certSpoiltUptoRow : OpenClaim := { program := "ytnndngoanknemaa", sum := "a347c01dd993d201db6dc65d038fce8a5b62597cc7780fb38c4e218ed8336546", func := "braidwork/braidworklaw18.CertSpoilt", spec := "certSpoilt", recurses := true, apart := false, narrowed := true }
def CertSpoiltUptoSaid : Prop := certSpoiltUptoRow.holds Try.pinned (OpenSpec.upto certSpoiltSpec)

end Rows
end Go.Proofs.Ytnndngoanknemaa
