/-
  DERIVED. GIVEN WITH THE SEED: THE CARDS: each row of YtingncadiolajaaDoorRows.lean that lists a variable, with what it lists TIED to the program's text (the seventh form; the later family's looks); each row that meets fmt, with fmt's text TOLD by the authors' own Lean function (tested against real Go, not proved from fmt's source: count such statements apart). THE CARD IS WHAT COUNTS. Prove the row's statement (the work); the ties are given (YtingncadiolajaaDoorTie.lean); close each card by the builder's one call (the guide's Derived/Test/ToyasCard.lean, 'card_holds'). Laid BY PROGRAM, IN A SANDBOX (cutbox-door.mjs). By AI agents, Wed Nov 11 2026. No macro, syntax, notation, axiom, sorry.
-/
import Derived.Test.YtingncadiolajaaDoorRows
import GoSem.ClaimSeven
namespace Go.Proofs.YtingncadiolajaaDoor
namespace Rows

/-- THE TIED CARD OF 'braidworklaw02.GaussWhole'. -/
def gaussWholeCard : Claim7 := { stood := { row := gaussWholeRow, standIns := [], harness := (true, "659b4c4dbafde8b57dd7adf925abc8515048af8f51f1d77a67b374f7fe1a4395"), looks := false }, kinds := [], alts := [], laidByText := true, laidKinds := [.data, .data, .data], laidTests := true, laidLooks := .later }
def GaussWholeCardSaid : Prop := Claim7.holds Tryd.pinned (.plain (OpenSpec.ofChange gaussWholeSpec)) gaussWholeCard

/-- THE TIED CARD OF 'braidworklaw02.GaussNorms'. -/
def gaussNormsCard : Claim7 := { stood := { row := gaussNormsRow, standIns := [], harness := (true, "659b4c4dbafde8b57dd7adf925abc8515048af8f51f1d77a67b374f7fe1a4395"), looks := false }, kinds := [], alts := [], laidByText := true, laidKinds := [.data, .data, .data], laidTests := true, laidLooks := .later }
def GaussNormsCardSaid : Prop := Claim7.holds Tryd.pinned (.plain (OpenSpec.ofChange gaussNormsSpec)) gaussNormsCard

/-- THE TIED CARD OF 'braidworklaw02.GaussOrders'. -/
def gaussOrdersCard : Claim7 := { stood := { row := gaussOrdersRow, standIns := [], harness := (true, "659b4c4dbafde8b57dd7adf925abc8515048af8f51f1d77a67b374f7fe1a4395"), looks := false }, kinds := [], alts := [], laidByText := true, laidKinds := [.data, .data, .data], laidTests := true, laidLooks := .later }
def GaussOrdersCardSaid : Prop := Claim7.holds Tryd.pinned (.plain (OpenSpec.ofChange gaussOrdersSpec)) gaussOrdersCard

/-- THE TIED CARD OF 'braidworklaw02.GaussRing'. -/
def gaussRingCard : Claim7 := { stood := { row := gaussRingRow, standIns := [], harness := (true, "659b4c4dbafde8b57dd7adf925abc8515048af8f51f1d77a67b374f7fe1a4395"), looks := false }, kinds := [], alts := [], laidByText := true, laidKinds := [.data, .data, .data], laidTests := true, laidLooks := .later }
def GaussRingCardSaid : Prop := Claim7.holds Tryd.pinned (.plain (OpenSpec.ofChange gaussRingSpec)) gaussRingCard

/-- THE TIED CARD OF 'braidworklaw02.GaussConjs'. -/
def gaussConjsCard : Claim7 := { stood := { row := gaussConjsRow, standIns := [], harness := (true, "659b4c4dbafde8b57dd7adf925abc8515048af8f51f1d77a67b374f7fe1a4395"), looks := false }, kinds := [], alts := [], laidByText := true, laidKinds := [.data, .data, .data], laidTests := true, laidLooks := .later }
def GaussConjsCardSaid : Prop := Claim7.holds Tryd.pinned (.plain (OpenSpec.ofChange gaussConjsSpec)) gaussConjsCard

/-- THE TIED CARD OF 'braidworklaw02.GaussRaw'. -/
def gaussRawCard : Claim7 := { stood := { row := gaussRawRow, standIns := [], harness := (true, "659b4c4dbafde8b57dd7adf925abc8515048af8f51f1d77a67b374f7fe1a4395"), looks := false }, kinds := [], alts := [], laidByText := true, laidKinds := [.data, .data, .data], laidTests := true, laidLooks := .later }
def GaussRawCardSaid : Prop := Claim7.holds Tryd.pinned (.plain (OpenSpec.ofChange gaussRawSpec)) gaussRawCard

/-- THE SECOND FORM's CARD OF 'braidworklaw02.GaussWhole'. -/
def gaussWholeUptoCard : Claim7 := { stood := { row := gaussWholeUptoRow, standIns := [], harness := (true, "659b4c4dbafde8b57dd7adf925abc8515048af8f51f1d77a67b374f7fe1a4395"), looks := false }, kinds := [], alts := [], laidByText := true, laidKinds := [.data, .data, .data], laidTests := true, laidLooks := .later }
def GaussWholeUptoCardSaid : Prop := Claim7.holds Tryd.pinned (.plain (OpenSpec.upto gaussWholeSpec)) gaussWholeUptoCard

/-- THE SECOND FORM's CARD OF 'braidworklaw02.GaussNorms'. -/
def gaussNormsUptoCard : Claim7 := { stood := { row := gaussNormsUptoRow, standIns := [], harness := (true, "659b4c4dbafde8b57dd7adf925abc8515048af8f51f1d77a67b374f7fe1a4395"), looks := false }, kinds := [], alts := [], laidByText := true, laidKinds := [.data, .data, .data], laidTests := true, laidLooks := .later }
def GaussNormsUptoCardSaid : Prop := Claim7.holds Tryd.pinned (.plain (OpenSpec.upto gaussNormsSpec)) gaussNormsUptoCard

/-- THE SECOND FORM's CARD OF 'braidworklaw02.GaussOrders'. -/
def gaussOrdersUptoCard : Claim7 := { stood := { row := gaussOrdersUptoRow, standIns := [], harness := (true, "659b4c4dbafde8b57dd7adf925abc8515048af8f51f1d77a67b374f7fe1a4395"), looks := false }, kinds := [], alts := [], laidByText := true, laidKinds := [.data, .data, .data], laidTests := true, laidLooks := .later }
def GaussOrdersUptoCardSaid : Prop := Claim7.holds Tryd.pinned (.plain (OpenSpec.upto gaussOrdersSpec)) gaussOrdersUptoCard

/-- THE SECOND FORM's CARD OF 'braidworklaw02.GaussRing'. -/
def gaussRingUptoCard : Claim7 := { stood := { row := gaussRingUptoRow, standIns := [], harness := (true, "659b4c4dbafde8b57dd7adf925abc8515048af8f51f1d77a67b374f7fe1a4395"), looks := false }, kinds := [], alts := [], laidByText := true, laidKinds := [.data, .data, .data], laidTests := true, laidLooks := .later }
def GaussRingUptoCardSaid : Prop := Claim7.holds Tryd.pinned (.plain (OpenSpec.upto gaussRingSpec)) gaussRingUptoCard

/-- THE SECOND FORM's CARD OF 'braidworklaw02.GaussConjs'. -/
def gaussConjsUptoCard : Claim7 := { stood := { row := gaussConjsUptoRow, standIns := [], harness := (true, "659b4c4dbafde8b57dd7adf925abc8515048af8f51f1d77a67b374f7fe1a4395"), looks := false }, kinds := [], alts := [], laidByText := true, laidKinds := [.data, .data, .data], laidTests := true, laidLooks := .later }
def GaussConjsUptoCardSaid : Prop := Claim7.holds Tryd.pinned (.plain (OpenSpec.upto gaussConjsSpec)) gaussConjsUptoCard

/-- THE SECOND FORM's CARD OF 'braidworklaw02.GaussRaw'. -/
def gaussRawUptoCard : Claim7 := { stood := { row := gaussRawUptoRow, standIns := [], harness := (true, "659b4c4dbafde8b57dd7adf925abc8515048af8f51f1d77a67b374f7fe1a4395"), looks := false }, kinds := [], alts := [], laidByText := true, laidKinds := [.data, .data, .data], laidTests := true, laidLooks := .later }
def GaussRawUptoCardSaid : Prop := Claim7.holds Tryd.pinned (.plain (OpenSpec.upto gaussRawSpec)) gaussRawUptoCard
end Rows
end Go.Proofs.YtingncadiolajaaDoor
