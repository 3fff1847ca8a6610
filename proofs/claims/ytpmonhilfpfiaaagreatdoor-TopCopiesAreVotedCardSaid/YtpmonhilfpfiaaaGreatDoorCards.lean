/-
  DERIVED. GIVEN WITH THE SEED: THE CARDS: each row of YtpmonhilfpfiaaaGreatDoorRows.lean that lists a variable, with what it lists TIED to the program's text (the seventh form; the later family's looks); each row that meets fmt, with fmt's text TOLD by the authors' own Lean function (tested against real Go, not proved from fmt's source: count such statements apart). THE CARD IS WHAT COUNTS. Prove the row's statement (the work); the ties are given (YtpmonhilfpfiaaaGreatDoorTie.lean); close each card by the builder's one call (the guide's Derived/Test/ToyasCard.lean, 'card_holds'). Laid BY PROGRAM, IN A SANDBOX (cutbox-door.mjs). By AI agents, Wed Nov 11 2026. No macro, syntax, notation, axiom, sorry.
-/
import Derived.Test.YtpmonhilfpfiaaaGreatDoorRows
import GoSem.ClaimSeven
namespace Go.Proofs.YtpmonhilfpfiaaaGreatDoor
namespace Rows

/-- THE TIED CARD OF 'ephemeratop.TopCopiesAreVoted'. -/
def topCopiesAreVotedCard : Claim7 := { stood := { row := topCopiesAreVotedRow, standIns := [], harness := (true, "9760bef029165ead45ede5c63718ca71889e702595f201de630c4234a511931e"), looks := false }, kinds := [], alts := [], laidByText := true, laidKinds := [.data, .data, .data, .data, .pinned], laidTests := true, laidLooks := .later }
def TopCopiesAreVotedCardSaid : Prop := Claim7.holds Tryz.pinned (.plain (OpenSpec.ofChange topCopiesAreVotedSpec)) topCopiesAreVotedCard

/-- THE TIED CARD OF 'ephemeratop.TopCopiesAreRepaired'. -/
def topCopiesAreRepairedCard : Claim7 := { stood := { row := topCopiesAreRepairedRow, standIns := [], harness := (true, "9760bef029165ead45ede5c63718ca71889e702595f201de630c4234a511931e"), looks := false }, kinds := [], alts := [], laidByText := true, laidKinds := [.data, .pinned], laidTests := true, laidLooks := .later }
def TopCopiesAreRepairedCardSaid : Prop := Claim7.holds Tryz.pinned (.plain (OpenSpec.ofChange topCopiesAreRepairedSpec)) topCopiesAreRepairedCard

/-- THE SECOND FORM's CARD OF 'ephemeratop.TopCopiesAreVoted'. -/
def topCopiesAreVotedUptoCard : Claim7 := { stood := { row := topCopiesAreVotedUptoRow, standIns := [], harness := (true, "9760bef029165ead45ede5c63718ca71889e702595f201de630c4234a511931e"), looks := false }, kinds := [], alts := [], laidByText := true, laidKinds := [.data, .data, .data, .data, .pinned], laidTests := true, laidLooks := .later }
def TopCopiesAreVotedUptoCardSaid : Prop := Claim7.holds Tryz.pinned (.plain (OpenSpec.upto topCopiesAreVotedSpec)) topCopiesAreVotedUptoCard

/-- THE SECOND FORM's CARD OF 'ephemeratop.TopCopiesAreRepaired'. -/
def topCopiesAreRepairedUptoCard : Claim7 := { stood := { row := topCopiesAreRepairedUptoRow, standIns := [], harness := (true, "9760bef029165ead45ede5c63718ca71889e702595f201de630c4234a511931e"), looks := false }, kinds := [], alts := [], laidByText := true, laidKinds := [.data, .pinned], laidTests := true, laidLooks := .later }
def TopCopiesAreRepairedUptoCardSaid : Prop := Claim7.holds Tryz.pinned (.plain (OpenSpec.upto topCopiesAreRepairedSpec)) topCopiesAreRepairedUptoCard
end Rows
end Go.Proofs.YtpmonhilfpfiaaaGreatDoor
