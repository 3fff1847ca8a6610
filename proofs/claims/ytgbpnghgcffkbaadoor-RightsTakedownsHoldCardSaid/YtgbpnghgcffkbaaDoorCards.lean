/-
  DERIVED. GIVEN WITH THE SEED: THE CARDS: each row of YtgbpnghgcffkbaaDoorRows.lean that lists a variable, with what it lists TIED to the program's text (the seventh form; the later family's looks); each row that meets fmt, with fmt's text TOLD by the authors' own Lean function (tested against real Go, not proved from fmt's source: count such statements apart). THE CARD IS WHAT COUNTS. Prove the row's statement (the work); the ties are given (YtgbpnghgcffkbaaDoorTie.lean); close each card by the builder's one call (the guide's Derived/Test/ToyasCard.lean, 'card_holds'). Laid BY PROGRAM, IN A SANDBOX (cutbox-door.mjs). By AI agents, Wed Nov 11 2026. No macro, syntax, notation, axiom, sorry.
-/
import Derived.Test.YtgbpnghgcffkbaaDoorRows
import GoSem.ClaimSeven
namespace Go.Proofs.YtgbpnghgcffkbaaDoor
namespace Rows

/-- THE TIED CARD OF 'ephemeralaw10.RightsTakedownsHold'. -/
def rightsTakedownsHoldCard : Claim7 := { stood := { row := rightsTakedownsHoldRow, standIns := [], harness := (true, "28d225cd4cea27618a948baeb24e1ec5ff4cb06be11ba5a157a1c206eca847af"), looks := false }, kinds := [], alts := [], laidByText := true, laidKinds := [.data, .pinned], laidTests := true, laidLooks := .later }
def RightsTakedownsHoldCardSaid : Prop := Claim7.holds Tryd.pinned (.plain (OpenSpec.ofChange rightsTakedownsHoldSpec)) rightsTakedownsHoldCard

/-- THE TIED CARD OF 'ephemeralaw10.RightsAppealsMatchSpec'. -/
def rightsAppealsMatchSpecCard : Claim7 := { stood := { row := rightsAppealsMatchSpecRow, standIns := [], harness := (true, "28d225cd4cea27618a948baeb24e1ec5ff4cb06be11ba5a157a1c206eca847af"), looks := false }, kinds := [], alts := [], laidByText := true, laidKinds := [.data, .pinned], laidTests := true, laidLooks := .later }
def RightsAppealsMatchSpecCardSaid : Prop := Claim7.holds Tryd.pinned (.plain (OpenSpec.ofChange rightsAppealsMatchSpecSpec)) rightsAppealsMatchSpecCard

/-- THE SECOND FORM's CARD OF 'ephemeralaw10.RightsTakedownsHold'. -/
def rightsTakedownsHoldUptoCard : Claim7 := { stood := { row := rightsTakedownsHoldUptoRow, standIns := [], harness := (true, "28d225cd4cea27618a948baeb24e1ec5ff4cb06be11ba5a157a1c206eca847af"), looks := false }, kinds := [], alts := [], laidByText := true, laidKinds := [.data, .pinned], laidTests := true, laidLooks := .later }
def RightsTakedownsHoldUptoCardSaid : Prop := Claim7.holds Tryd.pinned (.plain (OpenSpec.upto rightsTakedownsHoldSpec)) rightsTakedownsHoldUptoCard

/-- THE SECOND FORM's CARD OF 'ephemeralaw10.RightsAppealsMatchSpec'. -/
def rightsAppealsMatchSpecUptoCard : Claim7 := { stood := { row := rightsAppealsMatchSpecUptoRow, standIns := [], harness := (true, "28d225cd4cea27618a948baeb24e1ec5ff4cb06be11ba5a157a1c206eca847af"), looks := false }, kinds := [], alts := [], laidByText := true, laidKinds := [.data, .pinned], laidTests := true, laidLooks := .later }
def RightsAppealsMatchSpecUptoCardSaid : Prop := Claim7.holds Tryd.pinned (.plain (OpenSpec.upto rightsAppealsMatchSpecSpec)) rightsAppealsMatchSpecUptoCard
end Rows
end Go.Proofs.YtgbpnghgcffkbaaDoor
