/-
  DERIVED. GIVEN WITH THE SEED: THE CARDS: each row of YtdklocgaimejgaaDoorRows.lean that lists a variable, with what it lists TIED to the program's text (the seventh form; the later family's looks); each row that meets fmt, with fmt's text TOLD by the authors' own Lean function (tested against real Go, not proved from fmt's source: count such statements apart). THE CARD IS WHAT COUNTS. Prove the row's statement (the work); the ties are given (YtdklocgaimejgaaDoorTie.lean); close each card by the builder's one call (the guide's Derived/Test/ToyasCard.lean, 'card_holds'). Laid BY PROGRAM, IN A SANDBOX (cutbox-door.mjs). By AI agents, Wed Nov 11 2026. No macro, syntax, notation, axiom, sorry.
-/
import Derived.Test.YtdklocgaimejgaaDoorRows
import GoSem.ClaimSeven
namespace Go.Proofs.YtdklocgaimejgaaDoor
namespace Rows

/-- THE TIED CARD OF 'ephemeralaw11.CareRepairsRepair'. -/
def careRepairsRepairCard : Claim7 := { stood := { row := careRepairsRepairRow, standIns := [], harness := (true, "ce414867fe1a13759df5a6c2961355fc18d1a3a26e3b69be22c16ea3d1d4aad1"), looks := false }, kinds := [], alts := [], laidByText := true, laidKinds := [.data, .pinned], laidTests := true, laidLooks := .later }
def CareRepairsRepairCardSaid : Prop := Claim7.holds Tryd.pinned (.plain (OpenSpec.ofChange careRepairsRepairSpec)) careRepairsRepairCard

/-- THE TIED CARD OF 'ephemeralaw11.CareRepairsMatchSpec'. -/
def careRepairsMatchSpecCard : Claim7 := { stood := { row := careRepairsMatchSpecRow, standIns := [], harness := (true, "ce414867fe1a13759df5a6c2961355fc18d1a3a26e3b69be22c16ea3d1d4aad1"), looks := false }, kinds := [], alts := [], laidByText := true, laidKinds := [.data, .pinned], laidTests := true, laidLooks := .later }
def CareRepairsMatchSpecCardSaid : Prop := Claim7.holds Tryd.pinned (.plain (OpenSpec.ofChange careRepairsMatchSpecSpec)) careRepairsMatchSpecCard

/-- THE SECOND FORM's CARD OF 'ephemeralaw11.CareRepairsRepair'. -/
def careRepairsRepairUptoCard : Claim7 := { stood := { row := careRepairsRepairUptoRow, standIns := [], harness := (true, "ce414867fe1a13759df5a6c2961355fc18d1a3a26e3b69be22c16ea3d1d4aad1"), looks := false }, kinds := [], alts := [], laidByText := true, laidKinds := [.data, .pinned], laidTests := true, laidLooks := .later }
def CareRepairsRepairUptoCardSaid : Prop := Claim7.holds Tryd.pinned (.plain (OpenSpec.upto careRepairsRepairSpec)) careRepairsRepairUptoCard

/-- THE SECOND FORM's CARD OF 'ephemeralaw11.CareRepairsMatchSpec'. -/
def careRepairsMatchSpecUptoCard : Claim7 := { stood := { row := careRepairsMatchSpecUptoRow, standIns := [], harness := (true, "ce414867fe1a13759df5a6c2961355fc18d1a3a26e3b69be22c16ea3d1d4aad1"), looks := false }, kinds := [], alts := [], laidByText := true, laidKinds := [.data, .pinned], laidTests := true, laidLooks := .later }
def CareRepairsMatchSpecUptoCardSaid : Prop := Claim7.holds Tryd.pinned (.plain (OpenSpec.upto careRepairsMatchSpecSpec)) careRepairsMatchSpecUptoCard
end Rows
end Go.Proofs.YtdklocgaimejgaaDoor
