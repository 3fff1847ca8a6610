/-
  DERIVED. GIVEN WITH THE SEED: THE CARDS: each row of YtdljgjlkfihjdaaGreatDoorRows.lean that lists a variable, with what it lists TIED to the program's text (the seventh form; the later family's looks); each row that meets fmt, with fmt's text TOLD by the authors' own Lean function (tested against real Go, not proved from fmt's source: count such statements apart). THE CARD IS WHAT COUNTS. Prove the row's statement (the work); the ties are given (YtdljgjlkfihjdaaGreatDoorTie.lean); close each card by the builder's one call (the guide's Derived/Test/ToyasCard.lean, 'card_holds'). Laid BY PROGRAM, IN A SANDBOX (cutbox-door.mjs). By AI agents, Wed Nov 11 2026. No macro, syntax, notation, axiom, sorry.
-/
import Derived.Test.YtdljgjlkfihjdaaGreatDoorRows
import GoSem.ClaimSeven
namespace Go.Proofs.YtdljgjlkfihjdaaGreatDoor
namespace Rows

/-- THE TIED CARD OF 'ephemeralaw10.RightsIdleMatchesSpec'. -/
def rightsIdleMatchesSpecCard : Claim7 := { stood := { row := rightsIdleMatchesSpecRow, standIns := [], harness := (true, "db72c3400d114210e50d479adfa42e2ab87a4b02b6f17e3301de47f9ad2ca449"), looks := false }, kinds := [], alts := [], laidByText := true, laidKinds := [.data, .pinned], laidTests := true, laidLooks := .later }
def RightsIdleMatchesSpecCardSaid : Prop := Claim7.holds Tryz.pinned (.plain (OpenSpec.ofChange rightsIdleMatchesSpecSpec)) rightsIdleMatchesSpecCard

/-- THE SECOND FORM's CARD OF 'ephemeralaw10.RightsIdleMatchesSpec'. -/
def rightsIdleMatchesSpecUptoCard : Claim7 := { stood := { row := rightsIdleMatchesSpecUptoRow, standIns := [], harness := (true, "db72c3400d114210e50d479adfa42e2ab87a4b02b6f17e3301de47f9ad2ca449"), looks := false }, kinds := [], alts := [], laidByText := true, laidKinds := [.data, .pinned], laidTests := true, laidLooks := .later }
def RightsIdleMatchesSpecUptoCardSaid : Prop := Claim7.holds Tryz.pinned (.plain (OpenSpec.upto rightsIdleMatchesSpecSpec)) rightsIdleMatchesSpecUptoCard
end Rows
end Go.Proofs.YtdljgjlkfihjdaaGreatDoor
