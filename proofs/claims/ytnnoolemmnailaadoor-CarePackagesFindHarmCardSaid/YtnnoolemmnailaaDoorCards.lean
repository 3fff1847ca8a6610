/-
  DERIVED. GIVEN WITH THE SEED: THE CARDS: each row of YtnnoolemmnailaaDoorRows.lean that lists a variable, with what it lists TIED to the program's text (the seventh form; the later family's looks); each row that meets fmt, with fmt's text TOLD by the authors' own Lean function (tested against real Go, not proved from fmt's source: count such statements apart). THE CARD IS WHAT COUNTS. Prove the row's statement (the work); the ties are given (YtnnoolemmnailaaDoorTie.lean); close each card by the builder's one call (the guide's Derived/Test/ToyasCard.lean, 'card_holds'). Laid BY PROGRAM, IN A SANDBOX (cutbox-door.mjs). By AI agents, Wed Nov 11 2026. No macro, syntax, notation, axiom, sorry.
-/
import Derived.Test.YtnnoolemmnailaaDoorRows
import GoSem.ClaimSeven
namespace Go.Proofs.YtnnoolemmnailaaDoor
namespace Rows

/-- THE TIED CARD OF 'ephemeralaw11.CareProofsLeadToTheRoot'. -/
def careProofsLeadToTheRootCard : Claim7 := { stood := { row := careProofsLeadToTheRootRow, standIns := [], harness := (true, "1f84f2ee81af9b7f337ecac3979e8fb8c676a1c1e7aabfbeea925ac275bd486a"), looks := false }, kinds := [], alts := [], laidByText := true, laidKinds := [.data, .pinned], laidTests := true, laidLooks := .later }
def CareProofsLeadToTheRootCardSaid : Prop := Claim7.holds Tryd.pinned (.plain (OpenSpec.ofChange careProofsLeadToTheRootSpec)) careProofsLeadToTheRootCard

/-- THE TIED CARD OF 'ephemeralaw11.CareProofsMatchSpec'. -/
def careProofsMatchSpecCard : Claim7 := { stood := { row := careProofsMatchSpecRow, standIns := [], harness := (true, "1f84f2ee81af9b7f337ecac3979e8fb8c676a1c1e7aabfbeea925ac275bd486a"), looks := false }, kinds := [], alts := [], laidByText := true, laidKinds := [.data, .pinned], laidTests := true, laidLooks := .later }
def CareProofsMatchSpecCardSaid : Prop := Claim7.holds Tryd.pinned (.plain (OpenSpec.ofChange careProofsMatchSpecSpec)) careProofsMatchSpecCard

/-- THE TIED CARD OF 'ephemeralaw11.CareDiffersMatchSpec'. -/
def careDiffersMatchSpecCard : Claim7 := { stood := { row := careDiffersMatchSpecRow, standIns := [], harness := (true, "1f84f2ee81af9b7f337ecac3979e8fb8c676a1c1e7aabfbeea925ac275bd486a"), looks := false }, kinds := [], alts := [], laidByText := true, laidKinds := [.data, .pinned], laidTests := true, laidLooks := .later }
def CareDiffersMatchSpecCardSaid : Prop := Claim7.holds Tryd.pinned (.plain (OpenSpec.ofChange careDiffersMatchSpecSpec)) careDiffersMatchSpecCard

/-- THE TIED CARD OF 'ephemeralaw11.CareChallengesMatchSpec'. -/
def careChallengesMatchSpecCard : Claim7 := { stood := { row := careChallengesMatchSpecRow, standIns := [], harness := (true, "1f84f2ee81af9b7f337ecac3979e8fb8c676a1c1e7aabfbeea925ac275bd486a"), looks := false }, kinds := [], alts := [], laidByText := true, laidKinds := [.data, .pinned], laidTests := true, laidLooks := .later }
def CareChallengesMatchSpecCardSaid : Prop := Claim7.holds Tryd.pinned (.plain (OpenSpec.ofChange careChallengesMatchSpecSpec)) careChallengesMatchSpecCard

/-- THE TIED CARD OF 'ephemeralaw11.CareVotesCountAll'. -/
def careVotesCountAllCard : Claim7 := { stood := { row := careVotesCountAllRow, standIns := [], harness := (true, "1f84f2ee81af9b7f337ecac3979e8fb8c676a1c1e7aabfbeea925ac275bd486a"), looks := false }, kinds := [], alts := [], laidByText := true, laidKinds := [.data, .pinned], laidTests := true, laidLooks := .later }
def CareVotesCountAllCardSaid : Prop := Claim7.holds Tryd.pinned (.plain (OpenSpec.ofChange careVotesCountAllSpec)) careVotesCountAllCard

/-- THE TIED CARD OF 'ephemeralaw11.CareVotesMatchSpec'. -/
def careVotesMatchSpecCard : Claim7 := { stood := { row := careVotesMatchSpecRow, standIns := [], harness := (true, "1f84f2ee81af9b7f337ecac3979e8fb8c676a1c1e7aabfbeea925ac275bd486a"), looks := false }, kinds := [], alts := [], laidByText := true, laidKinds := [.data, .pinned], laidTests := true, laidLooks := .later }
def CareVotesMatchSpecCardSaid : Prop := Claim7.holds Tryd.pinned (.plain (OpenSpec.ofChange careVotesMatchSpecSpec)) careVotesMatchSpecCard

/-- THE TIED CARD OF 'ephemeralaw11.CareTreesMatchSpec'. -/
def careTreesMatchSpecCard : Claim7 := { stood := { row := careTreesMatchSpecRow, standIns := [], harness := (true, "1f84f2ee81af9b7f337ecac3979e8fb8c676a1c1e7aabfbeea925ac275bd486a"), looks := false }, kinds := [], alts := [], laidByText := true, laidKinds := [.data, .pinned], laidTests := true, laidLooks := .later }
def CareTreesMatchSpecCardSaid : Prop := Claim7.holds Tryd.pinned (.plain (OpenSpec.ofChange careTreesMatchSpecSpec)) careTreesMatchSpecCard

/-- THE TIED CARD OF 'ephemeralaw11.CareRepairsRepair'. -/
def careRepairsRepairCard : Claim7 := { stood := { row := careRepairsRepairRow, standIns := [], harness := (true, "1f84f2ee81af9b7f337ecac3979e8fb8c676a1c1e7aabfbeea925ac275bd486a"), looks := false }, kinds := [], alts := [], laidByText := true, laidKinds := [.data, .pinned], laidTests := true, laidLooks := .later }
def CareRepairsRepairCardSaid : Prop := Claim7.holds Tryd.pinned (.plain (OpenSpec.ofChange careRepairsRepairSpec)) careRepairsRepairCard

/-- THE TIED CARD OF 'ephemeralaw11.CareRepairsMatchSpec'. -/
def careRepairsMatchSpecCard : Claim7 := { stood := { row := careRepairsMatchSpecRow, standIns := [], harness := (true, "1f84f2ee81af9b7f337ecac3979e8fb8c676a1c1e7aabfbeea925ac275bd486a"), looks := false }, kinds := [], alts := [], laidByText := true, laidKinds := [.data, .pinned], laidTests := true, laidLooks := .later }
def CareRepairsMatchSpecCardSaid : Prop := Claim7.holds Tryd.pinned (.plain (OpenSpec.ofChange careRepairsMatchSpecSpec)) careRepairsMatchSpecCard

/-- THE TIED CARD OF 'ephemeralaw11.CareAuditsMatchSpec'. -/
def careAuditsMatchSpecCard : Claim7 := { stood := { row := careAuditsMatchSpecRow, standIns := [], harness := (true, "1f84f2ee81af9b7f337ecac3979e8fb8c676a1c1e7aabfbeea925ac275bd486a"), looks := false }, kinds := [], alts := [], laidByText := true, laidKinds := [.data, .pinned], laidTests := true, laidLooks := .later }
def CareAuditsMatchSpecCardSaid : Prop := Claim7.holds Tryd.pinned (.plain (OpenSpec.ofChange careAuditsMatchSpecSpec)) careAuditsMatchSpecCard

/-- THE TIED CARD OF 'ephemeralaw11.CarePackagesFindHarm'. -/
def carePackagesFindHarmCard : Claim7 := { stood := { row := carePackagesFindHarmRow, standIns := [], harness := (true, "1f84f2ee81af9b7f337ecac3979e8fb8c676a1c1e7aabfbeea925ac275bd486a"), looks := false }, kinds := [], alts := [], laidByText := true, laidKinds := [.data, .pinned], laidTests := true, laidLooks := .later }
def CarePackagesFindHarmCardSaid : Prop := Claim7.holds Tryd.pinned (.plain (OpenSpec.ofChange carePackagesFindHarmSpec)) carePackagesFindHarmCard

/-- THE TIED CARD OF 'ephemeralaw11.CarePackagesMatchSpec'. -/
def carePackagesMatchSpecCard : Claim7 := { stood := { row := carePackagesMatchSpecRow, standIns := [], harness := (true, "1f84f2ee81af9b7f337ecac3979e8fb8c676a1c1e7aabfbeea925ac275bd486a"), looks := false }, kinds := [], alts := [], laidByText := true, laidKinds := [.data, .pinned], laidTests := true, laidLooks := .later }
def CarePackagesMatchSpecCardSaid : Prop := Claim7.holds Tryd.pinned (.plain (OpenSpec.ofChange carePackagesMatchSpecSpec)) carePackagesMatchSpecCard

/-- THE SECOND FORM's CARD OF 'ephemeralaw11.CareProofsLeadToTheRoot'. -/
def careProofsLeadToTheRootUptoCard : Claim7 := { stood := { row := careProofsLeadToTheRootUptoRow, standIns := [], harness := (true, "1f84f2ee81af9b7f337ecac3979e8fb8c676a1c1e7aabfbeea925ac275bd486a"), looks := false }, kinds := [], alts := [], laidByText := true, laidKinds := [.data, .pinned], laidTests := true, laidLooks := .later }
def CareProofsLeadToTheRootUptoCardSaid : Prop := Claim7.holds Tryd.pinned (.plain (OpenSpec.upto careProofsLeadToTheRootSpec)) careProofsLeadToTheRootUptoCard

/-- THE SECOND FORM's CARD OF 'ephemeralaw11.CareProofsMatchSpec'. -/
def careProofsMatchSpecUptoCard : Claim7 := { stood := { row := careProofsMatchSpecUptoRow, standIns := [], harness := (true, "1f84f2ee81af9b7f337ecac3979e8fb8c676a1c1e7aabfbeea925ac275bd486a"), looks := false }, kinds := [], alts := [], laidByText := true, laidKinds := [.data, .pinned], laidTests := true, laidLooks := .later }
def CareProofsMatchSpecUptoCardSaid : Prop := Claim7.holds Tryd.pinned (.plain (OpenSpec.upto careProofsMatchSpecSpec)) careProofsMatchSpecUptoCard

/-- THE SECOND FORM's CARD OF 'ephemeralaw11.CareDiffersMatchSpec'. -/
def careDiffersMatchSpecUptoCard : Claim7 := { stood := { row := careDiffersMatchSpecUptoRow, standIns := [], harness := (true, "1f84f2ee81af9b7f337ecac3979e8fb8c676a1c1e7aabfbeea925ac275bd486a"), looks := false }, kinds := [], alts := [], laidByText := true, laidKinds := [.data, .pinned], laidTests := true, laidLooks := .later }
def CareDiffersMatchSpecUptoCardSaid : Prop := Claim7.holds Tryd.pinned (.plain (OpenSpec.upto careDiffersMatchSpecSpec)) careDiffersMatchSpecUptoCard

/-- THE SECOND FORM's CARD OF 'ephemeralaw11.CareChallengesMatchSpec'. -/
def careChallengesMatchSpecUptoCard : Claim7 := { stood := { row := careChallengesMatchSpecUptoRow, standIns := [], harness := (true, "1f84f2ee81af9b7f337ecac3979e8fb8c676a1c1e7aabfbeea925ac275bd486a"), looks := false }, kinds := [], alts := [], laidByText := true, laidKinds := [.data, .pinned], laidTests := true, laidLooks := .later }
def CareChallengesMatchSpecUptoCardSaid : Prop := Claim7.holds Tryd.pinned (.plain (OpenSpec.upto careChallengesMatchSpecSpec)) careChallengesMatchSpecUptoCard

/-- THE SECOND FORM's CARD OF 'ephemeralaw11.CareVotesCountAll'. -/
def careVotesCountAllUptoCard : Claim7 := { stood := { row := careVotesCountAllUptoRow, standIns := [], harness := (true, "1f84f2ee81af9b7f337ecac3979e8fb8c676a1c1e7aabfbeea925ac275bd486a"), looks := false }, kinds := [], alts := [], laidByText := true, laidKinds := [.data, .pinned], laidTests := true, laidLooks := .later }
def CareVotesCountAllUptoCardSaid : Prop := Claim7.holds Tryd.pinned (.plain (OpenSpec.upto careVotesCountAllSpec)) careVotesCountAllUptoCard

/-- THE SECOND FORM's CARD OF 'ephemeralaw11.CareVotesMatchSpec'. -/
def careVotesMatchSpecUptoCard : Claim7 := { stood := { row := careVotesMatchSpecUptoRow, standIns := [], harness := (true, "1f84f2ee81af9b7f337ecac3979e8fb8c676a1c1e7aabfbeea925ac275bd486a"), looks := false }, kinds := [], alts := [], laidByText := true, laidKinds := [.data, .pinned], laidTests := true, laidLooks := .later }
def CareVotesMatchSpecUptoCardSaid : Prop := Claim7.holds Tryd.pinned (.plain (OpenSpec.upto careVotesMatchSpecSpec)) careVotesMatchSpecUptoCard

/-- THE SECOND FORM's CARD OF 'ephemeralaw11.CareTreesMatchSpec'. -/
def careTreesMatchSpecUptoCard : Claim7 := { stood := { row := careTreesMatchSpecUptoRow, standIns := [], harness := (true, "1f84f2ee81af9b7f337ecac3979e8fb8c676a1c1e7aabfbeea925ac275bd486a"), looks := false }, kinds := [], alts := [], laidByText := true, laidKinds := [.data, .pinned], laidTests := true, laidLooks := .later }
def CareTreesMatchSpecUptoCardSaid : Prop := Claim7.holds Tryd.pinned (.plain (OpenSpec.upto careTreesMatchSpecSpec)) careTreesMatchSpecUptoCard

/-- THE SECOND FORM's CARD OF 'ephemeralaw11.CareRepairsRepair'. -/
def careRepairsRepairUptoCard : Claim7 := { stood := { row := careRepairsRepairUptoRow, standIns := [], harness := (true, "1f84f2ee81af9b7f337ecac3979e8fb8c676a1c1e7aabfbeea925ac275bd486a"), looks := false }, kinds := [], alts := [], laidByText := true, laidKinds := [.data, .pinned], laidTests := true, laidLooks := .later }
def CareRepairsRepairUptoCardSaid : Prop := Claim7.holds Tryd.pinned (.plain (OpenSpec.upto careRepairsRepairSpec)) careRepairsRepairUptoCard

/-- THE SECOND FORM's CARD OF 'ephemeralaw11.CareRepairsMatchSpec'. -/
def careRepairsMatchSpecUptoCard : Claim7 := { stood := { row := careRepairsMatchSpecUptoRow, standIns := [], harness := (true, "1f84f2ee81af9b7f337ecac3979e8fb8c676a1c1e7aabfbeea925ac275bd486a"), looks := false }, kinds := [], alts := [], laidByText := true, laidKinds := [.data, .pinned], laidTests := true, laidLooks := .later }
def CareRepairsMatchSpecUptoCardSaid : Prop := Claim7.holds Tryd.pinned (.plain (OpenSpec.upto careRepairsMatchSpecSpec)) careRepairsMatchSpecUptoCard

/-- THE SECOND FORM's CARD OF 'ephemeralaw11.CareAuditsMatchSpec'. -/
def careAuditsMatchSpecUptoCard : Claim7 := { stood := { row := careAuditsMatchSpecUptoRow, standIns := [], harness := (true, "1f84f2ee81af9b7f337ecac3979e8fb8c676a1c1e7aabfbeea925ac275bd486a"), looks := false }, kinds := [], alts := [], laidByText := true, laidKinds := [.data, .pinned], laidTests := true, laidLooks := .later }
def CareAuditsMatchSpecUptoCardSaid : Prop := Claim7.holds Tryd.pinned (.plain (OpenSpec.upto careAuditsMatchSpecSpec)) careAuditsMatchSpecUptoCard

/-- THE SECOND FORM's CARD OF 'ephemeralaw11.CarePackagesFindHarm'. -/
def carePackagesFindHarmUptoCard : Claim7 := { stood := { row := carePackagesFindHarmUptoRow, standIns := [], harness := (true, "1f84f2ee81af9b7f337ecac3979e8fb8c676a1c1e7aabfbeea925ac275bd486a"), looks := false }, kinds := [], alts := [], laidByText := true, laidKinds := [.data, .pinned], laidTests := true, laidLooks := .later }
def CarePackagesFindHarmUptoCardSaid : Prop := Claim7.holds Tryd.pinned (.plain (OpenSpec.upto carePackagesFindHarmSpec)) carePackagesFindHarmUptoCard

/-- THE SECOND FORM's CARD OF 'ephemeralaw11.CarePackagesMatchSpec'. -/
def carePackagesMatchSpecUptoCard : Claim7 := { stood := { row := carePackagesMatchSpecUptoRow, standIns := [], harness := (true, "1f84f2ee81af9b7f337ecac3979e8fb8c676a1c1e7aabfbeea925ac275bd486a"), looks := false }, kinds := [], alts := [], laidByText := true, laidKinds := [.data, .pinned], laidTests := true, laidLooks := .later }
def CarePackagesMatchSpecUptoCardSaid : Prop := Claim7.holds Tryd.pinned (.plain (OpenSpec.upto carePackagesMatchSpecSpec)) carePackagesMatchSpecUptoCard
end Rows
end Go.Proofs.YtnnoolemmnailaaDoor
