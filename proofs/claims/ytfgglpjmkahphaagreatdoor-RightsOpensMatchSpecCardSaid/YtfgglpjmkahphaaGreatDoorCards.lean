/-
  DERIVED. GIVEN WITH THE SEED: THE CARDS: each row of YtfgglpjmkahphaaGreatDoorRows.lean that lists a variable, with what it lists TIED to the program's text (the seventh form; the later family's looks); each row that meets fmt, with fmt's text TOLD by the authors' own Lean function (tested against real Go, not proved from fmt's source: count such statements apart). THE CARD IS WHAT COUNTS. Prove the row's statement (the work); the ties are given (YtfgglpjmkahphaaGreatDoorTie.lean); close each card by the builder's one call (the guide's Derived/Test/ToyasCard.lean, 'card_holds'). Laid BY PROGRAM, IN A SANDBOX (cutbox-door.mjs). By AI agents, Wed Nov 11 2026. No macro, syntax, notation, axiom, sorry.
-/
import Derived.Test.YtfgglpjmkahphaaGreatDoorRows
import GoSem.ClaimSeven
namespace Go.Proofs.YtfgglpjmkahphaaGreatDoor
namespace Rows

/-- THE TIED CARD OF 'ephemeralaw10.RightsOpensMatchSpec'. -/
def rightsOpensMatchSpecCard : Claim7 := { stood := { row := rightsOpensMatchSpecRow, standIns := [], harness := (true, "76714ddd50bed4ff95040a310e4daf78a0eceac46f86fad8efa7048f11867fdc"), looks := false }, kinds := [], alts := [], laidByText := true, laidKinds := [.data, .pinned], laidTests := true, laidLooks := .later }
def RightsOpensMatchSpecCardSaid : Prop := Claim7.holds Tryz.pinned (.plain (OpenSpec.ofChange rightsOpensMatchSpecSpec)) rightsOpensMatchSpecCard

/-- THE TIED CARD OF 'ephemeralaw10.RightsCountsOfShownMatchSpec'. -/
def rightsCountsOfShownMatchSpecCard : Claim7 := { stood := { row := rightsCountsOfShownMatchSpecRow, standIns := [], harness := (true, "76714ddd50bed4ff95040a310e4daf78a0eceac46f86fad8efa7048f11867fdc"), looks := false }, kinds := [], alts := [], laidByText := true, laidKinds := [.data, .pinned], laidTests := true, laidLooks := .later }
def RightsCountsOfShownMatchSpecCardSaid : Prop := Claim7.holds Tryz.pinned (.plain (OpenSpec.ofChange rightsCountsOfShownMatchSpecSpec)) rightsCountsOfShownMatchSpecCard

/-- THE SECOND FORM's CARD OF 'ephemeralaw10.RightsOpensMatchSpec'. -/
def rightsOpensMatchSpecUptoCard : Claim7 := { stood := { row := rightsOpensMatchSpecUptoRow, standIns := [], harness := (true, "76714ddd50bed4ff95040a310e4daf78a0eceac46f86fad8efa7048f11867fdc"), looks := false }, kinds := [], alts := [], laidByText := true, laidKinds := [.data, .pinned], laidTests := true, laidLooks := .later }
def RightsOpensMatchSpecUptoCardSaid : Prop := Claim7.holds Tryz.pinned (.plain (OpenSpec.upto rightsOpensMatchSpecSpec)) rightsOpensMatchSpecUptoCard

/-- THE SECOND FORM's CARD OF 'ephemeralaw10.RightsCountsOfShownMatchSpec'. -/
def rightsCountsOfShownMatchSpecUptoCard : Claim7 := { stood := { row := rightsCountsOfShownMatchSpecUptoRow, standIns := [], harness := (true, "76714ddd50bed4ff95040a310e4daf78a0eceac46f86fad8efa7048f11867fdc"), looks := false }, kinds := [], alts := [], laidByText := true, laidKinds := [.data, .pinned], laidTests := true, laidLooks := .later }
def RightsCountsOfShownMatchSpecUptoCardSaid : Prop := Claim7.holds Tryz.pinned (.plain (OpenSpec.upto rightsCountsOfShownMatchSpecSpec)) rightsCountsOfShownMatchSpecUptoCard
end Rows
end Go.Proofs.YtfgglpjmkahphaaGreatDoor
