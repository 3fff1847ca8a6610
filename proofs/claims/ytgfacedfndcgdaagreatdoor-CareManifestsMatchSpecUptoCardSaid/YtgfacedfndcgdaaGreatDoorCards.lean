/-
  DERIVED. GIVEN WITH THE SEED: THE CARDS: each row of YtgfacedfndcgdaaGreatDoorRows.lean that lists a variable, with what it lists TIED to the program's text (the seventh form; the later family's looks); each row that meets fmt, with fmt's text TOLD by the authors' own Lean function (tested against real Go, not proved from fmt's source: count such statements apart). THE CARD IS WHAT COUNTS. Prove the row's statement (the work); the ties are given (YtgfacedfndcgdaaGreatDoorTie.lean); close each card by the builder's one call (the guide's Derived/Test/ToyasCard.lean, 'card_holds'). Laid BY PROGRAM, IN A SANDBOX (cutbox-door.mjs). By AI agents, Wed Nov 11 2026. No macro, syntax, notation, axiom, sorry.
-/
import Derived.Test.YtgfacedfndcgdaaGreatDoorRows
import GoSem.ClaimSeven
namespace Go.Proofs.YtgfacedfndcgdaaGreatDoor
namespace Rows

/-- THE TIED CARD OF 'ephemeralaw11.CareManifestsMatchSpec'. -/
def careManifestsMatchSpecCard : Claim7 := { stood := { row := careManifestsMatchSpecRow, standIns := [], harness := (true, "86d114e51510efd7a39aa5b2c91dae38eaf09b9a7197a9635967ed32cda6e9c1"), looks := true }, kinds := [], alts := [], laidByText := true, laidKinds := [.data, .data, .data, .data, .sentinel, .sentinel, .pinned], laidTests := true, laidLooks := .later }
def CareManifestsMatchSpecCardSaid : Prop := Claim7.holds Tryz.pinned (.plain (OpenSpec.ofChange careManifestsMatchSpecSpec)) careManifestsMatchSpecCard

/-- THE TIED CARD OF 'ephemeralaw11.CareManifestReadsMatchSpec'. -/
def careManifestReadsMatchSpecCard : Claim7 := { stood := { row := careManifestReadsMatchSpecRow, standIns := [], harness := (true, "86d114e51510efd7a39aa5b2c91dae38eaf09b9a7197a9635967ed32cda6e9c1"), looks := true }, kinds := [], alts := [], laidByText := true, laidKinds := [.data, .data, .data, .data, .sentinel, .sentinel, .pinned], laidTests := true, laidLooks := .later }
def CareManifestReadsMatchSpecCardSaid : Prop := Claim7.holds Tryz.pinned (.plain (OpenSpec.ofChange careManifestReadsMatchSpecSpec)) careManifestReadsMatchSpecCard

/-- THE SECOND FORM's CARD OF 'ephemeralaw11.CareManifestsMatchSpec'. -/
def careManifestsMatchSpecUptoCard : Claim7 := { stood := { row := careManifestsMatchSpecUptoRow, standIns := [], harness := (true, "86d114e51510efd7a39aa5b2c91dae38eaf09b9a7197a9635967ed32cda6e9c1"), looks := true }, kinds := [], alts := [], laidByText := true, laidKinds := [.data, .data, .data, .data, .sentinel, .sentinel, .pinned], laidTests := true, laidLooks := .later }
def CareManifestsMatchSpecUptoCardSaid : Prop := Claim7.holds Tryz.pinned (.plain (OpenSpec.upto careManifestsMatchSpecSpec)) careManifestsMatchSpecUptoCard

/-- THE SECOND FORM's CARD OF 'ephemeralaw11.CareManifestReadsMatchSpec'. -/
def careManifestReadsMatchSpecUptoCard : Claim7 := { stood := { row := careManifestReadsMatchSpecUptoRow, standIns := [], harness := (true, "86d114e51510efd7a39aa5b2c91dae38eaf09b9a7197a9635967ed32cda6e9c1"), looks := true }, kinds := [], alts := [], laidByText := true, laidKinds := [.data, .data, .data, .data, .sentinel, .sentinel, .pinned], laidTests := true, laidLooks := .later }
def CareManifestReadsMatchSpecUptoCardSaid : Prop := Claim7.holds Tryz.pinned (.plain (OpenSpec.upto careManifestReadsMatchSpecSpec)) careManifestReadsMatchSpecUptoCard
end Rows
end Go.Proofs.YtgfacedfndcgdaaGreatDoor
