/-
  No cell of these rows narrows 'for every input' (looked for: loops, veiled, ifaces, maps, wideKeys, modest, calm, conditions, laid).
  DERIVED. THE GIVEN ROWS OF THIS SEAT. 9 by the template 'for every input the law returns true; each argument reads behind the call as it read before'; 0 by the template 'total and deterministic' (their statements: YtcaokdlmolnbaaaTotals.lean).
  GIVEN WITH THE SEED: the statements are not yours to turn. If you find one false, say at which input.
  Laid BY PROGRAM, IN A SANDBOX (cutbox-rows.mjs): the forced cells as the released guide's own fill.sh prints them over the translation e441997a45c63cc5… (all of the seat's roots in one cut). By AI agents, Wed Nov 11 2026. No macro, syntax, notation, axiom, sorry.
-/
import Derived.Test.YtcaokdlmolnbaaaChecked
import GoSem.Claim
import GoSem.ClaimJoined
import GoSem.ClaimMapViews
import Derived.JoinedTies
import Derived.KernelRfl
namespace Go.Proofs.Ytcaokdlmolnbaaa
/- THE CELL 'sum', in the pinned program and in every row, IS THE sha256 OF THE DUMP (.gsa) THAT YtcaokdlmolnbaaaProg.lean LOADS. Nothing in Lean hashes anything: it is a label: what it is worth is what the hold of that sum in a sandbox is worth. -/
noncomputable def Try.pinned : Pinned := { name := "ytcaokdlmolnbaaa", sum := "e441997a45c63cc5ff06f2eb298dd5ee348c5db5adc8b5dc20505267db7fad2b", checked := Try.checked }
namespace Rows
def none {H : Type} : Left H := { results := [], args := [] }

/-- 'braidworklaw08.EventClashes': WHATEVER THE INPUT: true; the input reads as it did. -/
def eventClashesSpec : ChangeSpec := { name := "eventClashes", fn := fun _ => fun
  | [d1, d2, d3, d4] => { results := [.lit (.bool true)], args := [d1, d2, d3, d4] }
  | _ => none }
def eventClashesRow : OpenClaim := { program := "ytcaokdlmolnbaaa", sum := "e441997a45c63cc5ff06f2eb298dd5ee348c5db5adc8b5dc20505267db7fad2b", func := "braidwork/braidworklaw08.EventClashes", spec := "eventClashes", unfollowed := true, recurses := true, apart := false }
def EventClashesSaid : Prop := eventClashesRow.holds Try.pinned (OpenSpec.ofChange eventClashesSpec)

/-- ITS FALSE NEIGHBOUR: 'it returns false'. Refute it at one input. -/
def eventClashesWrong : ChangeSpec := { name := "eventClashes", fn := fun _ => fun
  | [d1, d2, d3, d4] => { results := [.lit (.bool false)], args := [d1, d2, d3, d4] }
  | _ => none }
def EventClashesWrongFalsely : Prop := eventClashesRow.holds Try.pinned (OpenSpec.ofChange eventClashesWrong)

/-- 'braidworklaw08.EventMore': WHATEVER THE INPUT: true; the input reads as it did. -/
def eventMoreSpec : ChangeSpec := { name := "eventMore", fn := fun _ => fun
  | [d1, d2, d3] => { results := [.lit (.bool true)], args := [d1, d2, d3] }
  | _ => none }
def eventMoreRow : OpenClaim := { program := "ytcaokdlmolnbaaa", sum := "e441997a45c63cc5ff06f2eb298dd5ee348c5db5adc8b5dc20505267db7fad2b", func := "braidwork/braidworklaw08.EventMore", spec := "eventMore", unfollowed := true, recurses := true, apart := false }
def EventMoreSaid : Prop := eventMoreRow.holds Try.pinned (OpenSpec.ofChange eventMoreSpec)

/-- ITS FALSE NEIGHBOUR: 'it returns false'. Refute it at one input. -/
def eventMoreWrong : ChangeSpec := { name := "eventMore", fn := fun _ => fun
  | [d1, d2, d3] => { results := [.lit (.bool false)], args := [d1, d2, d3] }
  | _ => none }
def EventMoreWrongFalsely : Prop := eventMoreRow.holds Try.pinned (OpenSpec.ofChange eventMoreWrong)

/-- 'braidworklaw08.EventNews': WHATEVER THE INPUT: true; the input reads as it did. -/
def eventNewsSpec : ChangeSpec := { name := "eventNews", fn := fun _ => fun
  | [d1, d2] => { results := [.lit (.bool true)], args := [d1, d2] }
  | _ => none }
def eventNewsRow : OpenClaim := { program := "ytcaokdlmolnbaaa", sum := "e441997a45c63cc5ff06f2eb298dd5ee348c5db5adc8b5dc20505267db7fad2b", func := "braidwork/braidworklaw08.EventNews", spec := "eventNews", unfollowed := true, recurses := true, apart := false }
def EventNewsSaid : Prop := eventNewsRow.holds Try.pinned (OpenSpec.ofChange eventNewsSpec)

/-- ITS FALSE NEIGHBOUR: 'it returns false'. Refute it at one input. -/
def eventNewsWrong : ChangeSpec := { name := "eventNews", fn := fun _ => fun
  | [d1, d2] => { results := [.lit (.bool false)], args := [d1, d2] }
  | _ => none }
def EventNewsWrongFalsely : Prop := eventNewsRow.holds Try.pinned (OpenSpec.ofChange eventNewsWrong)

/-- 'braidworklaw08.EventSames': WHATEVER THE INPUT: true; the input reads as it did. -/
def eventSamesSpec : ChangeSpec := { name := "eventSames", fn := fun _ => fun
  | [d1, d2, d3, d4] => { results := [.lit (.bool true)], args := [d1, d2, d3, d4] }
  | _ => none }
def eventSamesRow : OpenClaim := { program := "ytcaokdlmolnbaaa", sum := "e441997a45c63cc5ff06f2eb298dd5ee348c5db5adc8b5dc20505267db7fad2b", func := "braidwork/braidworklaw08.EventSames", spec := "eventSames", unfollowed := true, recurses := true, apart := false }
def EventSamesSaid : Prop := eventSamesRow.holds Try.pinned (OpenSpec.ofChange eventSamesSpec)

/-- ITS FALSE NEIGHBOUR: 'it returns false'. Refute it at one input. -/
def eventSamesWrong : ChangeSpec := { name := "eventSames", fn := fun _ => fun
  | [d1, d2, d3, d4] => { results := [.lit (.bool false)], args := [d1, d2, d3, d4] }
  | _ => none }
def EventSamesWrongFalsely : Prop := eventSamesRow.holds Try.pinned (OpenSpec.ofChange eventSamesWrong)

/-- 'braidworklaw08.EventTurns': WHATEVER THE INPUT: true; the input reads as it did. -/
def eventTurnsSpec : ChangeSpec := { name := "eventTurns", fn := fun _ => fun
  | [d1, d2] => { results := [.lit (.bool true)], args := [d1, d2] }
  | _ => none }
def eventTurnsRow : OpenClaim := { program := "ytcaokdlmolnbaaa", sum := "e441997a45c63cc5ff06f2eb298dd5ee348c5db5adc8b5dc20505267db7fad2b", func := "braidwork/braidworklaw08.EventTurns", spec := "eventTurns", unfollowed := true, recurses := true, apart := false }
def EventTurnsSaid : Prop := eventTurnsRow.holds Try.pinned (OpenSpec.ofChange eventTurnsSpec)

/-- ITS FALSE NEIGHBOUR: 'it returns false'. Refute it at one input. -/
def eventTurnsWrong : ChangeSpec := { name := "eventTurns", fn := fun _ => fun
  | [d1, d2] => { results := [.lit (.bool false)], args := [d1, d2] }
  | _ => none }
def EventTurnsWrongFalsely : Prop := eventTurnsRow.holds Try.pinned (OpenSpec.ofChange eventTurnsWrong)

/-- 'braidworklaw11.ClockTrans': WHATEVER THE INPUT: true; the input reads as it did. -/
def clockTransSpec : ChangeSpec := { name := "clockTrans", fn := fun _ => fun
  | [d] => { results := [.lit (.bool true)], args := [d] }
  | _ => none }
def clockTransRow : OpenClaim := { program := "ytcaokdlmolnbaaa", sum := "e441997a45c63cc5ff06f2eb298dd5ee348c5db5adc8b5dc20505267db7fad2b", func := "braidwork/braidworklaw11.ClockTrans", spec := "clockTrans", unfollowed := true, recurses := true, apart := false }
def ClockTransSaid : Prop := clockTransRow.holds Try.pinned (OpenSpec.ofChange clockTransSpec)

/-- ITS FALSE NEIGHBOUR: 'it returns false'. Refute it at one input. -/
def clockTransWrong : ChangeSpec := { name := "clockTrans", fn := fun _ => fun
  | [d] => { results := [.lit (.bool false)], args := [d] }
  | _ => none }
def ClockTransWrongFalsely : Prop := clockTransRow.holds Try.pinned (OpenSpec.ofChange clockTransWrong)

/-- 'braidworklaw11.ClockSwaps': WHATEVER THE INPUT: true; the input reads as it did. -/
def clockSwapsSpec : ChangeSpec := { name := "clockSwaps", fn := fun _ => fun
  | [d1, d2] => { results := [.lit (.bool true)], args := [d1, d2] }
  | _ => none }
def clockSwapsRow : OpenClaim := { program := "ytcaokdlmolnbaaa", sum := "e441997a45c63cc5ff06f2eb298dd5ee348c5db5adc8b5dc20505267db7fad2b", func := "braidwork/braidworklaw11.ClockSwaps", spec := "clockSwaps", unfollowed := true, recurses := true, apart := false }
def ClockSwapsSaid : Prop := clockSwapsRow.holds Try.pinned (OpenSpec.ofChange clockSwapsSpec)

/-- ITS FALSE NEIGHBOUR: 'it returns false'. Refute it at one input. -/
def clockSwapsWrong : ChangeSpec := { name := "clockSwaps", fn := fun _ => fun
  | [d1, d2] => { results := [.lit (.bool false)], args := [d1, d2] }
  | _ => none }
def ClockSwapsWrongFalsely : Prop := clockSwapsRow.holds Try.pinned (OpenSpec.ofChange clockSwapsWrong)

/-- 'braidworklaw11.ClockOrders': WHATEVER THE INPUT: true; the input reads as it did. -/
def clockOrdersSpec : ChangeSpec := { name := "clockOrders", fn := fun _ => fun
  | [d1, d2, d3] => { results := [.lit (.bool true)], args := [d1, d2, d3] }
  | _ => none }
def clockOrdersRow : OpenClaim := { program := "ytcaokdlmolnbaaa", sum := "e441997a45c63cc5ff06f2eb298dd5ee348c5db5adc8b5dc20505267db7fad2b", func := "braidwork/braidworklaw11.ClockOrders", spec := "clockOrders", unfollowed := true, recurses := true, apart := false }
def ClockOrdersSaid : Prop := clockOrdersRow.holds Try.pinned (OpenSpec.ofChange clockOrdersSpec)

/-- ITS FALSE NEIGHBOUR: 'it returns false'. Refute it at one input. -/
def clockOrdersWrong : ChangeSpec := { name := "clockOrders", fn := fun _ => fun
  | [d1, d2, d3] => { results := [.lit (.bool false)], args := [d1, d2, d3] }
  | _ => none }
def ClockOrdersWrongFalsely : Prop := clockOrdersRow.holds Try.pinned (OpenSpec.ofChange clockOrdersWrong)

/-- 'braidworklaw11.ClockCounts': WHATEVER THE INPUT: true; the input reads as it did. -/
def clockCountsSpec : ChangeSpec := { name := "clockCounts", fn := fun _ => fun
  | [d1, d2] => { results := [.lit (.bool true)], args := [d1, d2] }
  | _ => none }
def clockCountsRow : OpenClaim := { program := "ytcaokdlmolnbaaa", sum := "e441997a45c63cc5ff06f2eb298dd5ee348c5db5adc8b5dc20505267db7fad2b", func := "braidwork/braidworklaw11.ClockCounts", spec := "clockCounts", unfollowed := true, recurses := true, apart := false }
def ClockCountsSaid : Prop := clockCountsRow.holds Try.pinned (OpenSpec.ofChange clockCountsSpec)

/-- ITS FALSE NEIGHBOUR: 'it returns false'. Refute it at one input. -/
def clockCountsWrong : ChangeSpec := { name := "clockCounts", fn := fun _ => fun
  | [d1, d2] => { results := [.lit (.bool false)], args := [d1, d2] }
  | _ => none }
def ClockCountsWrongFalsely : Prop := clockCountsRow.holds Try.pinned (OpenSpec.ofChange clockCountsWrong)

/- THE SECOND FORM. 'bulk': how many values and letters a reading holds, each counted each time it is reached (what is shared counts as often as it is met; a slice's spare places count too). A statement '..UptoSaid' is the law's where the arguments, and the package variables that the reading takes, are together of bulk at most 1048576: NARROWER than '..Said'. Prove '..Said' where nothing that the law and all that it calls make is longer than what came in: it says more and counts as full. Else prove '..UptoSaid'. A law counts once. -/
mutual
def uptoBulk {H : Type} : DataW H → Nat
  | .lit (.string bytes) => bytes.length + 1
  | .lit _ => 1
  | .nil => 1
  | .ptr d => uptoBulk d + 1
  | .slice elems spare => uptoBulkAll elems + uptoBulkAll spare + 1
  | .agg parts => uptoBulkAll parts + 1
  | .iface _ d => uptoBulk d + 1
  | .map entries => uptoBulkEntries entries + 1
  | .held _ => 1
def uptoBulkAll {H : Type} : List (DataW H) → Nat
  | [] => 0
  | d :: r => uptoBulk d + uptoBulkAll r
def uptoBulkEntries {H : Type} : List (Lit × DataW H) → Nat
  | [] => 0
  | x :: r => uptoBulkEntry x + uptoBulkEntries r
def uptoBulkEntry {H : Type} : Lit × DataW H → Nat
  | (.string bytes, d) => bytes.length + uptoBulk d + 1
  | (_, d) => uptoBulk d + 1
 end
def uptoSmall : (H : Type) → List (DataW H) → Bool := fun _ ds => decide (uptoBulkAll ds ≤ 1048576)
def OpenSpec.upto (s : _root_.Go.ChangeSpec) : _root_.Go.OpenSpec := { _root_.Go.OpenSpec.ofChange s with cond := some uptoSmall }

/-- 'braidworklaw08.EventClashes', WHERE WHAT IT READS IS OF BULK AT MOST 1048576: true; the input reads as it did. -/
def eventClashesUptoRow : OpenClaim := { program := "ytcaokdlmolnbaaa", sum := "e441997a45c63cc5ff06f2eb298dd5ee348c5db5adc8b5dc20505267db7fad2b", func := "braidwork/braidworklaw08.EventClashes", spec := "eventClashes", unfollowed := true, recurses := true, apart := false, narrowed := true }
def EventClashesUptoSaid : Prop := eventClashesUptoRow.holds Try.pinned (OpenSpec.upto eventClashesSpec)

/-- 'braidworklaw08.EventMore', WHERE WHAT IT READS IS OF BULK AT MOST 1048576: true; the input reads as it did. -/
def eventMoreUptoRow : OpenClaim := { program := "ytcaokdlmolnbaaa", sum := "e441997a45c63cc5ff06f2eb298dd5ee348c5db5adc8b5dc20505267db7fad2b", func := "braidwork/braidworklaw08.EventMore", spec := "eventMore", unfollowed := true, recurses := true, apart := false, narrowed := true }
def EventMoreUptoSaid : Prop := eventMoreUptoRow.holds Try.pinned (OpenSpec.upto eventMoreSpec)

/-- 'braidworklaw08.EventNews', WHERE WHAT IT READS IS OF BULK AT MOST 1048576: true; the input reads as it did. -/
def eventNewsUptoRow : OpenClaim := { program := "ytcaokdlmolnbaaa", sum := "e441997a45c63cc5ff06f2eb298dd5ee348c5db5adc8b5dc20505267db7fad2b", func := "braidwork/braidworklaw08.EventNews", spec := "eventNews", unfollowed := true, recurses := true, apart := false, narrowed := true }
def EventNewsUptoSaid : Prop := eventNewsUptoRow.holds Try.pinned (OpenSpec.upto eventNewsSpec)

/-- 'braidworklaw08.EventSames', WHERE WHAT IT READS IS OF BULK AT MOST 1048576: true; the input reads as it did. -/
def eventSamesUptoRow : OpenClaim := { program := "ytcaokdlmolnbaaa", sum := "e441997a45c63cc5ff06f2eb298dd5ee348c5db5adc8b5dc20505267db7fad2b", func := "braidwork/braidworklaw08.EventSames", spec := "eventSames", unfollowed := true, recurses := true, apart := false, narrowed := true }
def EventSamesUptoSaid : Prop := eventSamesUptoRow.holds Try.pinned (OpenSpec.upto eventSamesSpec)

/-- 'braidworklaw08.EventTurns', WHERE WHAT IT READS IS OF BULK AT MOST 1048576: true; the input reads as it did. -/
def eventTurnsUptoRow : OpenClaim := { program := "ytcaokdlmolnbaaa", sum := "e441997a45c63cc5ff06f2eb298dd5ee348c5db5adc8b5dc20505267db7fad2b", func := "braidwork/braidworklaw08.EventTurns", spec := "eventTurns", unfollowed := true, recurses := true, apart := false, narrowed := true }
def EventTurnsUptoSaid : Prop := eventTurnsUptoRow.holds Try.pinned (OpenSpec.upto eventTurnsSpec)

/-- 'braidworklaw11.ClockTrans', WHERE WHAT IT READS IS OF BULK AT MOST 1048576: true; the input reads as it did. -/
def clockTransUptoRow : OpenClaim := { program := "ytcaokdlmolnbaaa", sum := "e441997a45c63cc5ff06f2eb298dd5ee348c5db5adc8b5dc20505267db7fad2b", func := "braidwork/braidworklaw11.ClockTrans", spec := "clockTrans", unfollowed := true, recurses := true, apart := false, narrowed := true }
def ClockTransUptoSaid : Prop := clockTransUptoRow.holds Try.pinned (OpenSpec.upto clockTransSpec)

/-- 'braidworklaw11.ClockSwaps', WHERE WHAT IT READS IS OF BULK AT MOST 1048576: true; the input reads as it did. -/
def clockSwapsUptoRow : OpenClaim := { program := "ytcaokdlmolnbaaa", sum := "e441997a45c63cc5ff06f2eb298dd5ee348c5db5adc8b5dc20505267db7fad2b", func := "braidwork/braidworklaw11.ClockSwaps", spec := "clockSwaps", unfollowed := true, recurses := true, apart := false, narrowed := true }
def ClockSwapsUptoSaid : Prop := clockSwapsUptoRow.holds Try.pinned (OpenSpec.upto clockSwapsSpec)

/-- 'braidworklaw11.ClockOrders', WHERE WHAT IT READS IS OF BULK AT MOST 1048576: true; the input reads as it did. -/
def clockOrdersUptoRow : OpenClaim := { program := "ytcaokdlmolnbaaa", sum := "e441997a45c63cc5ff06f2eb298dd5ee348c5db5adc8b5dc20505267db7fad2b", func := "braidwork/braidworklaw11.ClockOrders", spec := "clockOrders", unfollowed := true, recurses := true, apart := false, narrowed := true }
def ClockOrdersUptoSaid : Prop := clockOrdersUptoRow.holds Try.pinned (OpenSpec.upto clockOrdersSpec)

/-- 'braidworklaw11.ClockCounts', WHERE WHAT IT READS IS OF BULK AT MOST 1048576: true; the input reads as it did. -/
def clockCountsUptoRow : OpenClaim := { program := "ytcaokdlmolnbaaa", sum := "e441997a45c63cc5ff06f2eb298dd5ee348c5db5adc8b5dc20505267db7fad2b", func := "braidwork/braidworklaw11.ClockCounts", spec := "clockCounts", unfollowed := true, recurses := true, apart := false, narrowed := true }
def ClockCountsUptoSaid : Prop := clockCountsUptoRow.holds Try.pinned (OpenSpec.upto clockCountsSpec)

end Rows
end Go.Proofs.Ytcaokdlmolnbaaa
