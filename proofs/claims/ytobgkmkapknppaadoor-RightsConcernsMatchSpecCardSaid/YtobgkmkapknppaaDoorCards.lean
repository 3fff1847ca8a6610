/-
  DERIVED. GIVEN WITH THE SEED: THE CARDS: each row of YtobgkmkapknppaaDoorRows.lean that lists a variable, with what it lists TIED to the program's text (the seventh form; the later family's looks); each row that meets fmt, with fmt's text TOLD by the authors' own Lean function (tested against real Go, not proved from fmt's source: count such statements apart). THE CARD IS WHAT COUNTS. Prove the row's statement (the work); the ties are given (YtobgkmkapknppaaDoorTie.lean); close each card by the builder's one call (the guide's Derived/Test/ToyasCard.lean, 'card_holds'). Laid BY PROGRAM, IN A SANDBOX (cutbox-door.mjs). By AI agents, Wed Nov 11 2026. No macro, syntax, notation, axiom, sorry.
-/
import Derived.Test.YtobgkmkapknppaaDoorRows
import GoSem.ClaimSeven
namespace Go.Proofs.YtobgkmkapknppaaDoor
namespace Rows

/-- THE TIED CARD OF 'ephemeralaw10.RightsNearerIsAnOrder'. -/
def rightsNearerIsAnOrderCard : Claim7 := { stood := { row := rightsNearerIsAnOrderRow, standIns := [], harness := (true, "84ca58ff816605c204fbef07f90ab4c74871cb4e80bd0e3e67ea4b9045106e4c"), looks := false }, kinds := [], alts := [], laidByText := true, laidKinds := [.data, .pinned], laidTests := true, laidLooks := .later }
def RightsNearerIsAnOrderCardSaid : Prop := Claim7.holds Tryd.pinned (.plain (OpenSpec.ofChange rightsNearerIsAnOrderSpec)) rightsNearerIsAnOrderCard

/-- THE TIED CARD OF 'ephemeralaw10.RightsConcernsMatchSpec'. -/
def rightsConcernsMatchSpecCard : Claim7 := { stood := { row := rightsConcernsMatchSpecRow, standIns := [], harness := (true, "84ca58ff816605c204fbef07f90ab4c74871cb4e80bd0e3e67ea4b9045106e4c"), looks := false }, kinds := [], alts := [], laidByText := true, laidKinds := [.data, .pinned], laidTests := true, laidLooks := .later }
def RightsConcernsMatchSpecCardSaid : Prop := Claim7.holds Tryd.pinned (.plain (OpenSpec.ofChange rightsConcernsMatchSpecSpec)) rightsConcernsMatchSpecCard

/-- THE SECOND FORM's CARD OF 'ephemeralaw10.RightsNearerIsAnOrder'. -/
def rightsNearerIsAnOrderUptoCard : Claim7 := { stood := { row := rightsNearerIsAnOrderUptoRow, standIns := [], harness := (true, "84ca58ff816605c204fbef07f90ab4c74871cb4e80bd0e3e67ea4b9045106e4c"), looks := false }, kinds := [], alts := [], laidByText := true, laidKinds := [.data, .pinned], laidTests := true, laidLooks := .later }
def RightsNearerIsAnOrderUptoCardSaid : Prop := Claim7.holds Tryd.pinned (.plain (OpenSpec.upto rightsNearerIsAnOrderSpec)) rightsNearerIsAnOrderUptoCard

/-- THE SECOND FORM's CARD OF 'ephemeralaw10.RightsConcernsMatchSpec'. -/
def rightsConcernsMatchSpecUptoCard : Claim7 := { stood := { row := rightsConcernsMatchSpecUptoRow, standIns := [], harness := (true, "84ca58ff816605c204fbef07f90ab4c74871cb4e80bd0e3e67ea4b9045106e4c"), looks := false }, kinds := [], alts := [], laidByText := true, laidKinds := [.data, .pinned], laidTests := true, laidLooks := .later }
def RightsConcernsMatchSpecUptoCardSaid : Prop := Claim7.holds Tryd.pinned (.plain (OpenSpec.upto rightsConcernsMatchSpecSpec)) rightsConcernsMatchSpecUptoCard
end Rows
end Go.Proofs.YtobgkmkapknppaaDoor
