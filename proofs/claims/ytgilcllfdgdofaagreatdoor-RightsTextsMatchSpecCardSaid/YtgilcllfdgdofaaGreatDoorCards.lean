/-
  DERIVED. GIVEN WITH THE SEED: THE CARDS: each row of YtgilcllfdgdofaaGreatDoorRows.lean that lists a variable, with what it lists TIED to the program's text (the seventh form; the later family's looks); each row that meets fmt, with fmt's text TOLD by the authors' own Lean function (tested against real Go, not proved from fmt's source: count such statements apart). THE CARD IS WHAT COUNTS. Prove the row's statement (the work); the ties are given (YtgilcllfdgdofaaGreatDoorTie.lean); close each card by the builder's one call (the guide's Derived/Test/ToyasCard.lean, 'card_holds'). Laid BY PROGRAM, IN A SANDBOX (cutbox-door.mjs). By AI agents, Wed Nov 11 2026. No macro, syntax, notation, axiom, sorry.
-/
import Derived.Test.YtgilcllfdgdofaaGreatDoorRows
import GoSem.ClaimSeven
namespace Go.Proofs.YtgilcllfdgdofaaGreatDoor
namespace Rows

/-- THE TIED CARD OF 'ephemeralaw10.RightsReadsMatchSpec'. -/
def rightsReadsMatchSpecCard : Claim7 := { stood := { row := rightsReadsMatchSpecRow, standIns := [], harness := (true, "0d64c7a611ce60fba4a181d7a9b8240bbbed2f279f19d43cc471aa9f0fa890e7"), looks := true }, kinds := [], alts := [], laidByText := true, laidKinds := [.data, .data, .data, .data, .sentinel, .sentinel, .pinned], laidTests := true, laidLooks := .later }
def RightsReadsMatchSpecCardSaid : Prop := Claim7.holds Tryz.pinned (.plain (OpenSpec.ofChange rightsReadsMatchSpecSpec)) rightsReadsMatchSpecCard

/-- THE TIED CARD OF 'ephemeralaw10.RightsTextsMatchSpec'. -/
def rightsTextsMatchSpecCard : Claim7 := { stood := { row := rightsTextsMatchSpecRow, standIns := [], harness := (true, "0d64c7a611ce60fba4a181d7a9b8240bbbed2f279f19d43cc471aa9f0fa890e7"), looks := true }, kinds := [], alts := [], laidByText := true, laidKinds := [.data, .data, .data, .data, .sentinel, .sentinel, .pinned], laidTests := true, laidLooks := .later }
def RightsTextsMatchSpecCardSaid : Prop := Claim7.holds Tryz.pinned (.plain (OpenSpec.ofChange rightsTextsMatchSpecSpec)) rightsTextsMatchSpecCard

/-- THE SECOND FORM's CARD OF 'ephemeralaw10.RightsReadsMatchSpec'. -/
def rightsReadsMatchSpecUptoCard : Claim7 := { stood := { row := rightsReadsMatchSpecUptoRow, standIns := [], harness := (true, "0d64c7a611ce60fba4a181d7a9b8240bbbed2f279f19d43cc471aa9f0fa890e7"), looks := true }, kinds := [], alts := [], laidByText := true, laidKinds := [.data, .data, .data, .data, .sentinel, .sentinel, .pinned], laidTests := true, laidLooks := .later }
def RightsReadsMatchSpecUptoCardSaid : Prop := Claim7.holds Tryz.pinned (.plain (OpenSpec.upto rightsReadsMatchSpecSpec)) rightsReadsMatchSpecUptoCard

/-- THE SECOND FORM's CARD OF 'ephemeralaw10.RightsTextsMatchSpec'. -/
def rightsTextsMatchSpecUptoCard : Claim7 := { stood := { row := rightsTextsMatchSpecUptoRow, standIns := [], harness := (true, "0d64c7a611ce60fba4a181d7a9b8240bbbed2f279f19d43cc471aa9f0fa890e7"), looks := true }, kinds := [], alts := [], laidByText := true, laidKinds := [.data, .data, .data, .data, .sentinel, .sentinel, .pinned], laidTests := true, laidLooks := .later }
def RightsTextsMatchSpecUptoCardSaid : Prop := Claim7.holds Tryz.pinned (.plain (OpenSpec.upto rightsTextsMatchSpecSpec)) rightsTextsMatchSpecUptoCard
end Rows
end Go.Proofs.YtgilcllfdgdofaaGreatDoor
