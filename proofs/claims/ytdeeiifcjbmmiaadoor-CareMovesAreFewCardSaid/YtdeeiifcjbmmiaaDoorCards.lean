/-
  DERIVED. GIVEN WITH THE SEED: THE CARDS: each row of YtdeeiifcjbmmiaaDoorRows.lean that lists a variable, with what it lists TIED to the program's text (the seventh form; the later family's looks); each row that meets fmt, with fmt's text TOLD by the authors' own Lean function (tested against real Go, not proved from fmt's source: count such statements apart). THE CARD IS WHAT COUNTS. Prove the row's statement (the work); the ties are given (YtdeeiifcjbmmiaaDoorTie.lean); close each card by the builder's one call (the guide's Derived/Test/ToyasCard.lean, 'card_holds'). Laid BY PROGRAM, IN A SANDBOX (cutbox-door.mjs). By AI agents, Wed Nov 11 2026. No macro, syntax, notation, axiom, sorry.
-/
import Derived.Test.YtdeeiifcjbmmiaaDoorRows
import GoSem.ClaimSeven
namespace Go.Proofs.YtdeeiifcjbmmiaaDoor
namespace Rows

/-- THE TIED CARD OF 'ephemeralaw11.CareMovesAreFew'. -/
def careMovesAreFewCard : Claim7 := { stood := { row := careMovesAreFewRow, standIns := [], harness := (true, "3bdcde664cad6ef78e9471f953c4da050607153f1130f39076843343aa547038"), looks := false }, kinds := [], alts := [], laidByText := true, laidKinds := [.data, .pinned], laidTests := true, laidLooks := .later }
def CareMovesAreFewCardSaid : Prop := Claim7.holds Tryd.pinned (.plain (OpenSpec.ofChange careMovesAreFewSpec)) careMovesAreFewCard

/-- THE SECOND FORM's CARD OF 'ephemeralaw11.CareMovesAreFew'. -/
def careMovesAreFewUptoCard : Claim7 := { stood := { row := careMovesAreFewUptoRow, standIns := [], harness := (true, "3bdcde664cad6ef78e9471f953c4da050607153f1130f39076843343aa547038"), looks := false }, kinds := [], alts := [], laidByText := true, laidKinds := [.data, .pinned], laidTests := true, laidLooks := .later }
def CareMovesAreFewUptoCardSaid : Prop := Claim7.holds Tryd.pinned (.plain (OpenSpec.upto careMovesAreFewSpec)) careMovesAreFewUptoCard
end Rows
end Go.Proofs.YtdeeiifcjbmmiaaDoor
