/-
  DERIVED. GIVEN WITH THE SEED: THE CARDS: each row of YtdeeiifcjbmmiaaGreatDoorRows.lean that lists a variable, with what it lists TIED to the program's text (the seventh form; the later family's looks); each row that meets fmt, with fmt's text TOLD by the authors' own Lean function (tested against real Go, not proved from fmt's source: count such statements apart). THE CARD IS WHAT COUNTS. Prove the row's statement (the work); the ties are given (YtdeeiifcjbmmiaaGreatDoorTie.lean); close each card by the builder's one call (the guide's Derived/Test/ToyasCard.lean, 'card_holds'). Laid BY PROGRAM, IN A SANDBOX (cutbox-door.mjs). By AI agents, Wed Nov 11 2026. No macro, syntax, notation, axiom, sorry.
-/
import Derived.Test.YtdeeiifcjbmmiaaGreatDoorRows
import GoSem.ClaimSeven
namespace Go.Proofs.YtdeeiifcjbmmiaaGreatDoor
namespace Rows

/-- THE TIED CARD OF 'ephemeralaw11.CarePlacesMatchSpec'. -/
def carePlacesMatchSpecCard : Claim7 := { stood := { row := carePlacesMatchSpecRow, standIns := [], harness := (true, "da98163b98f2a52880bff7c07c456778df1713cd42bf234f0583cf09846b773d"), looks := true }, kinds := [], alts := [], laidByText := true, laidKinds := [.data, .data, .data, .data, .sentinel, .sentinel, .pinned], laidTests := true, laidLooks := .later }
def CarePlacesMatchSpecCardSaid : Prop := Claim7.holds Tryz.pinned (.plain (OpenSpec.ofChange carePlacesMatchSpecSpec)) carePlacesMatchSpecCard

/-- THE TIED CARD OF 'ephemeralaw11.CareMovesMatchSpec'. -/
def careMovesMatchSpecCard : Claim7 := { stood := { row := careMovesMatchSpecRow, standIns := [], harness := (true, "da98163b98f2a52880bff7c07c456778df1713cd42bf234f0583cf09846b773d"), looks := true }, kinds := [], alts := [], laidByText := true, laidKinds := [.data, .data, .data, .data, .sentinel, .sentinel, .pinned], laidTests := true, laidLooks := .later }
def CareMovesMatchSpecCardSaid : Prop := Claim7.holds Tryz.pinned (.plain (OpenSpec.ofChange careMovesMatchSpecSpec)) careMovesMatchSpecCard

/-- THE SECOND FORM's CARD OF 'ephemeralaw11.CarePlacesMatchSpec'. -/
def carePlacesMatchSpecUptoCard : Claim7 := { stood := { row := carePlacesMatchSpecUptoRow, standIns := [], harness := (true, "da98163b98f2a52880bff7c07c456778df1713cd42bf234f0583cf09846b773d"), looks := true }, kinds := [], alts := [], laidByText := true, laidKinds := [.data, .data, .data, .data, .sentinel, .sentinel, .pinned], laidTests := true, laidLooks := .later }
def CarePlacesMatchSpecUptoCardSaid : Prop := Claim7.holds Tryz.pinned (.plain (OpenSpec.upto carePlacesMatchSpecSpec)) carePlacesMatchSpecUptoCard

/-- THE SECOND FORM's CARD OF 'ephemeralaw11.CareMovesMatchSpec'. -/
def careMovesMatchSpecUptoCard : Claim7 := { stood := { row := careMovesMatchSpecUptoRow, standIns := [], harness := (true, "da98163b98f2a52880bff7c07c456778df1713cd42bf234f0583cf09846b773d"), looks := true }, kinds := [], alts := [], laidByText := true, laidKinds := [.data, .data, .data, .data, .sentinel, .sentinel, .pinned], laidTests := true, laidLooks := .later }
def CareMovesMatchSpecUptoCardSaid : Prop := Claim7.holds Tryz.pinned (.plain (OpenSpec.upto careMovesMatchSpecSpec)) careMovesMatchSpecUptoCard
end Rows
end Go.Proofs.YtdeeiifcjbmmiaaGreatDoor
