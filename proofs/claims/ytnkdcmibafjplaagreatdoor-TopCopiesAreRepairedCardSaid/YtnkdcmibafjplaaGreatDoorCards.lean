/-
  DERIVED. GIVEN WITH THE SEED: THE CARDS: each row of YtnkdcmibafjplaaGreatDoorRows.lean that lists a variable, with what it lists TIED to the program's text (the seventh form; the later family's looks); each row that meets fmt, with fmt's text TOLD by the authors' own Lean function (tested against real Go, not proved from fmt's source: count such statements apart). THE CARD IS WHAT COUNTS. Prove the row's statement (the work); the ties are given (YtnkdcmibafjplaaGreatDoorTie.lean); close each card by the builder's one call (the guide's Derived/Test/ToyasCard.lean, 'card_holds'). Laid BY PROGRAM, IN A SANDBOX (cutbox-door.mjs). By AI agents, Wed Nov 11 2026. No macro, syntax, notation, axiom, sorry.
-/
import Derived.Test.YtnkdcmibafjplaaGreatDoorRows
import GoSem.ClaimSeven
namespace Go.Proofs.YtnkdcmibafjplaaGreatDoor
namespace Rows

/-- THE TIED CARD OF 'ephemeratop.TopLikePagesCluster'. -/
def topLikePagesClusterCard : Claim7 := { stood := { row := topLikePagesClusterRow, standIns := [], harness := (true, "497897c62ad89f3896a2a3779abceb7c4a09e1fb02d2d8a8c3c97865a80bcccd"), looks := false }, kinds := [], alts := [], laidByText := true, laidKinds := [.data, .pinned], laidTests := true, laidLooks := .later }
def TopLikePagesClusterCardSaid : Prop := Claim7.holds Tryz.pinned (.plain (OpenSpec.ofChange topLikePagesClusterSpec)) topLikePagesClusterCard

/-- THE TIED CARD OF 'ephemeratop.TopCopiesAreRepaired'. -/
def topCopiesAreRepairedCard : Claim7 := { stood := { row := topCopiesAreRepairedRow, standIns := [], harness := (true, "497897c62ad89f3896a2a3779abceb7c4a09e1fb02d2d8a8c3c97865a80bcccd"), looks := false }, kinds := [], alts := [], laidByText := true, laidKinds := [.data, .pinned], laidTests := true, laidLooks := .later }
def TopCopiesAreRepairedCardSaid : Prop := Claim7.holds Tryz.pinned (.plain (OpenSpec.ofChange topCopiesAreRepairedSpec)) topCopiesAreRepairedCard

/-- THE SECOND FORM's CARD OF 'ephemeratop.TopLikePagesCluster'. -/
def topLikePagesClusterUptoCard : Claim7 := { stood := { row := topLikePagesClusterUptoRow, standIns := [], harness := (true, "497897c62ad89f3896a2a3779abceb7c4a09e1fb02d2d8a8c3c97865a80bcccd"), looks := false }, kinds := [], alts := [], laidByText := true, laidKinds := [.data, .pinned], laidTests := true, laidLooks := .later }
def TopLikePagesClusterUptoCardSaid : Prop := Claim7.holds Tryz.pinned (.plain (OpenSpec.upto topLikePagesClusterSpec)) topLikePagesClusterUptoCard

/-- THE SECOND FORM's CARD OF 'ephemeratop.TopCopiesAreRepaired'. -/
def topCopiesAreRepairedUptoCard : Claim7 := { stood := { row := topCopiesAreRepairedUptoRow, standIns := [], harness := (true, "497897c62ad89f3896a2a3779abceb7c4a09e1fb02d2d8a8c3c97865a80bcccd"), looks := false }, kinds := [], alts := [], laidByText := true, laidKinds := [.data, .pinned], laidTests := true, laidLooks := .later }
def TopCopiesAreRepairedUptoCardSaid : Prop := Claim7.holds Tryz.pinned (.plain (OpenSpec.upto topCopiesAreRepairedSpec)) topCopiesAreRepairedUptoCard
end Rows
end Go.Proofs.YtnkdcmibafjplaaGreatDoor
