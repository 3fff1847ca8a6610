/-
  DERIVED. GIVEN WITH THE SEED: THE CARDS: each row of YtbafnemcdhdagaaDoorRows.lean that lists a variable, with what it lists TIED to the program's text (the seventh form; the later family's looks); each row that meets fmt, with fmt's text TOLD by the authors' own Lean function (tested against real Go, not proved from fmt's source: count such statements apart). THE CARD IS WHAT COUNTS. Prove the row's statement (the work); the ties are given (YtbafnemcdhdagaaDoorTie.lean); close each card by the builder's one call (the guide's Derived/Test/ToyasCard.lean, 'card_holds'). Laid BY PROGRAM, IN A SANDBOX (cutbox-door.mjs). By AI agents, Wed Nov 11 2026. No macro, syntax, notation, axiom, sorry.
-/
import Derived.Test.YtbafnemcdhdagaaDoorRows
import GoSem.ClaimSeven
namespace Go.Proofs.YtbafnemcdhdagaaDoor
namespace Rows

/-- THE TIED CARD OF 'ephemeralaw11.CareRepairsRepair'. -/
def careRepairsRepairCard : Claim7 := { stood := { row := careRepairsRepairRow, standIns := [], harness := (true, "11d6807b1b6186d88f13385a3f250b5f0c38edbd1400c06ddc71a99577e92d61"), looks := false }, kinds := [], alts := [], laidByText := true, laidKinds := [.data, .pinned], laidTests := true, laidLooks := .later }
def CareRepairsRepairCardSaid : Prop := Claim7.holds Tryd.pinned (.plain (OpenSpec.ofChange careRepairsRepairSpec)) careRepairsRepairCard

/-- THE TIED CARD OF 'ephemeralaw11.CareRepairsMatchSpec'. -/
def careRepairsMatchSpecCard : Claim7 := { stood := { row := careRepairsMatchSpecRow, standIns := [], harness := (true, "11d6807b1b6186d88f13385a3f250b5f0c38edbd1400c06ddc71a99577e92d61"), looks := false }, kinds := [], alts := [], laidByText := true, laidKinds := [.data, .pinned], laidTests := true, laidLooks := .later }
def CareRepairsMatchSpecCardSaid : Prop := Claim7.holds Tryd.pinned (.plain (OpenSpec.ofChange careRepairsMatchSpecSpec)) careRepairsMatchSpecCard

/-- THE TIED CARD OF 'ephemeralaw11.CareAuditsMatchSpec'. -/
def careAuditsMatchSpecCard : Claim7 := { stood := { row := careAuditsMatchSpecRow, standIns := [], harness := (true, "11d6807b1b6186d88f13385a3f250b5f0c38edbd1400c06ddc71a99577e92d61"), looks := false }, kinds := [], alts := [], laidByText := true, laidKinds := [.data, .pinned], laidTests := true, laidLooks := .later }
def CareAuditsMatchSpecCardSaid : Prop := Claim7.holds Tryd.pinned (.plain (OpenSpec.ofChange careAuditsMatchSpecSpec)) careAuditsMatchSpecCard

/-- THE TIED CARD OF 'ephemeralaw11.CarePackagesMatchSpec'. -/
def carePackagesMatchSpecCard : Claim7 := { stood := { row := carePackagesMatchSpecRow, standIns := [], harness := (true, "11d6807b1b6186d88f13385a3f250b5f0c38edbd1400c06ddc71a99577e92d61"), looks := false }, kinds := [], alts := [], laidByText := true, laidKinds := [.data, .pinned], laidTests := true, laidLooks := .later }
def CarePackagesMatchSpecCardSaid : Prop := Claim7.holds Tryd.pinned (.plain (OpenSpec.ofChange carePackagesMatchSpecSpec)) carePackagesMatchSpecCard

/-- THE TIED CARD OF 'ephemeralaw11.CareMovesAreFew'. -/
def careMovesAreFewCard : Claim7 := { stood := { row := careMovesAreFewRow, standIns := [], harness := (true, "11d6807b1b6186d88f13385a3f250b5f0c38edbd1400c06ddc71a99577e92d61"), looks := false }, kinds := [], alts := [], laidByText := true, laidKinds := [.data, .pinned], laidTests := true, laidLooks := .later }
def CareMovesAreFewCardSaid : Prop := Claim7.holds Tryd.pinned (.plain (OpenSpec.ofChange careMovesAreFewSpec)) careMovesAreFewCard

/-- THE SECOND FORM's CARD OF 'ephemeralaw11.CareRepairsRepair'. -/
def careRepairsRepairUptoCard : Claim7 := { stood := { row := careRepairsRepairUptoRow, standIns := [], harness := (true, "11d6807b1b6186d88f13385a3f250b5f0c38edbd1400c06ddc71a99577e92d61"), looks := false }, kinds := [], alts := [], laidByText := true, laidKinds := [.data, .pinned], laidTests := true, laidLooks := .later }
def CareRepairsRepairUptoCardSaid : Prop := Claim7.holds Tryd.pinned (.plain (OpenSpec.upto careRepairsRepairSpec)) careRepairsRepairUptoCard

/-- THE SECOND FORM's CARD OF 'ephemeralaw11.CareRepairsMatchSpec'. -/
def careRepairsMatchSpecUptoCard : Claim7 := { stood := { row := careRepairsMatchSpecUptoRow, standIns := [], harness := (true, "11d6807b1b6186d88f13385a3f250b5f0c38edbd1400c06ddc71a99577e92d61"), looks := false }, kinds := [], alts := [], laidByText := true, laidKinds := [.data, .pinned], laidTests := true, laidLooks := .later }
def CareRepairsMatchSpecUptoCardSaid : Prop := Claim7.holds Tryd.pinned (.plain (OpenSpec.upto careRepairsMatchSpecSpec)) careRepairsMatchSpecUptoCard

/-- THE SECOND FORM's CARD OF 'ephemeralaw11.CareAuditsMatchSpec'. -/
def careAuditsMatchSpecUptoCard : Claim7 := { stood := { row := careAuditsMatchSpecUptoRow, standIns := [], harness := (true, "11d6807b1b6186d88f13385a3f250b5f0c38edbd1400c06ddc71a99577e92d61"), looks := false }, kinds := [], alts := [], laidByText := true, laidKinds := [.data, .pinned], laidTests := true, laidLooks := .later }
def CareAuditsMatchSpecUptoCardSaid : Prop := Claim7.holds Tryd.pinned (.plain (OpenSpec.upto careAuditsMatchSpecSpec)) careAuditsMatchSpecUptoCard

/-- THE SECOND FORM's CARD OF 'ephemeralaw11.CarePackagesMatchSpec'. -/
def carePackagesMatchSpecUptoCard : Claim7 := { stood := { row := carePackagesMatchSpecUptoRow, standIns := [], harness := (true, "11d6807b1b6186d88f13385a3f250b5f0c38edbd1400c06ddc71a99577e92d61"), looks := false }, kinds := [], alts := [], laidByText := true, laidKinds := [.data, .pinned], laidTests := true, laidLooks := .later }
def CarePackagesMatchSpecUptoCardSaid : Prop := Claim7.holds Tryd.pinned (.plain (OpenSpec.upto carePackagesMatchSpecSpec)) carePackagesMatchSpecUptoCard

/-- THE SECOND FORM's CARD OF 'ephemeralaw11.CareMovesAreFew'. -/
def careMovesAreFewUptoCard : Claim7 := { stood := { row := careMovesAreFewUptoRow, standIns := [], harness := (true, "11d6807b1b6186d88f13385a3f250b5f0c38edbd1400c06ddc71a99577e92d61"), looks := false }, kinds := [], alts := [], laidByText := true, laidKinds := [.data, .pinned], laidTests := true, laidLooks := .later }
def CareMovesAreFewUptoCardSaid : Prop := Claim7.holds Tryd.pinned (.plain (OpenSpec.upto careMovesAreFewSpec)) careMovesAreFewUptoCard
end Rows
end Go.Proofs.YtbafnemcdhdagaaDoor
