/-
  DERIVED. GIVEN WITH THE SEED: THE CARDS: each row of YtfgglpjmkahphaaDoorRows.lean that lists a variable, with what it lists TIED to the program's text (the seventh form; the later family's looks); each row that meets fmt, with fmt's text TOLD by the authors' own Lean function (tested against real Go, not proved from fmt's source: count such statements apart). THE CARD IS WHAT COUNTS. Prove the row's statement (the work); the ties are given (YtfgglpjmkahphaaDoorTie.lean); close each card by the builder's one call (the guide's Derived/Test/ToyasCard.lean, 'card_holds'). Laid BY PROGRAM, IN A SANDBOX (cutbox-door.mjs). By AI agents, Wed Nov 11 2026. No macro, syntax, notation, axiom, sorry.
-/
import Derived.Test.YtfgglpjmkahphaaDoorRows
import GoSem.ClaimSeven
namespace Go.Proofs.YtfgglpjmkahphaaDoor
namespace Rows

/-- THE TIED CARD OF 'ephemeralaw10.RightsTakedownsHold'. -/
def rightsTakedownsHoldCard : Claim7 := { stood := { row := rightsTakedownsHoldRow, standIns := [], harness := (true, "f2589086b14dcacf9dd91fdf145e98dbf7eed6ef57e1dc4b56f74a7be001cc9d"), looks := false }, kinds := [], alts := [], laidByText := true, laidKinds := [.data, .pinned], laidTests := true, laidLooks := .later }
def RightsTakedownsHoldCardSaid : Prop := Claim7.holds Tryd.pinned (.plain (OpenSpec.ofChange rightsTakedownsHoldSpec)) rightsTakedownsHoldCard

/-- THE TIED CARD OF 'ephemeralaw10.RightsAppealsMatchSpec'. -/
def rightsAppealsMatchSpecCard : Claim7 := { stood := { row := rightsAppealsMatchSpecRow, standIns := [], harness := (true, "f2589086b14dcacf9dd91fdf145e98dbf7eed6ef57e1dc4b56f74a7be001cc9d"), looks := false }, kinds := [], alts := [], laidByText := true, laidKinds := [.data, .pinned], laidTests := true, laidLooks := .later }
def RightsAppealsMatchSpecCardSaid : Prop := Claim7.holds Tryd.pinned (.plain (OpenSpec.ofChange rightsAppealsMatchSpecSpec)) rightsAppealsMatchSpecCard

/-- THE TIED CARD OF 'ephemeralaw10.RightsSpansAreWhenOneMaySee'. -/
def rightsSpansAreWhenOneMaySeeCard : Claim7 := { stood := { row := rightsSpansAreWhenOneMaySeeRow, standIns := [], harness := (true, "f2589086b14dcacf9dd91fdf145e98dbf7eed6ef57e1dc4b56f74a7be001cc9d"), looks := false }, kinds := [], alts := [], laidByText := true, laidKinds := [.data, .pinned], laidTests := true, laidLooks := .later }
def RightsSpansAreWhenOneMaySeeCardSaid : Prop := Claim7.holds Tryd.pinned (.plain (OpenSpec.ofChange rightsSpansAreWhenOneMaySeeSpec)) rightsSpansAreWhenOneMaySeeCard

/-- THE SECOND FORM's CARD OF 'ephemeralaw10.RightsTakedownsHold'. -/
def rightsTakedownsHoldUptoCard : Claim7 := { stood := { row := rightsTakedownsHoldUptoRow, standIns := [], harness := (true, "f2589086b14dcacf9dd91fdf145e98dbf7eed6ef57e1dc4b56f74a7be001cc9d"), looks := false }, kinds := [], alts := [], laidByText := true, laidKinds := [.data, .pinned], laidTests := true, laidLooks := .later }
def RightsTakedownsHoldUptoCardSaid : Prop := Claim7.holds Tryd.pinned (.plain (OpenSpec.upto rightsTakedownsHoldSpec)) rightsTakedownsHoldUptoCard

/-- THE SECOND FORM's CARD OF 'ephemeralaw10.RightsAppealsMatchSpec'. -/
def rightsAppealsMatchSpecUptoCard : Claim7 := { stood := { row := rightsAppealsMatchSpecUptoRow, standIns := [], harness := (true, "f2589086b14dcacf9dd91fdf145e98dbf7eed6ef57e1dc4b56f74a7be001cc9d"), looks := false }, kinds := [], alts := [], laidByText := true, laidKinds := [.data, .pinned], laidTests := true, laidLooks := .later }
def RightsAppealsMatchSpecUptoCardSaid : Prop := Claim7.holds Tryd.pinned (.plain (OpenSpec.upto rightsAppealsMatchSpecSpec)) rightsAppealsMatchSpecUptoCard

/-- THE SECOND FORM's CARD OF 'ephemeralaw10.RightsSpansAreWhenOneMaySee'. -/
def rightsSpansAreWhenOneMaySeeUptoCard : Claim7 := { stood := { row := rightsSpansAreWhenOneMaySeeUptoRow, standIns := [], harness := (true, "f2589086b14dcacf9dd91fdf145e98dbf7eed6ef57e1dc4b56f74a7be001cc9d"), looks := false }, kinds := [], alts := [], laidByText := true, laidKinds := [.data, .pinned], laidTests := true, laidLooks := .later }
def RightsSpansAreWhenOneMaySeeUptoCardSaid : Prop := Claim7.holds Tryd.pinned (.plain (OpenSpec.upto rightsSpansAreWhenOneMaySeeSpec)) rightsSpansAreWhenOneMaySeeUptoCard
end Rows
end Go.Proofs.YtfgglpjmkahphaaDoor
