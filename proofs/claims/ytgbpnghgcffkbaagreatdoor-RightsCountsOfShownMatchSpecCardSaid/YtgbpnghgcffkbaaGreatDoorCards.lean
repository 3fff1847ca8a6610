/-
  DERIVED. GIVEN WITH THE SEED: THE CARDS: each row of YtgbpnghgcffkbaaGreatDoorRows.lean that lists a variable, with what it lists TIED to the program's text (the seventh form; the later family's looks); each row that meets fmt, with fmt's text TOLD by the authors' own Lean function (tested against real Go, not proved from fmt's source: count such statements apart). THE CARD IS WHAT COUNTS. Prove the row's statement (the work); the ties are given (YtgbpnghgcffkbaaGreatDoorTie.lean); close each card by the builder's one call (the guide's Derived/Test/ToyasCard.lean, 'card_holds'). Laid BY PROGRAM, IN A SANDBOX (cutbox-door.mjs). By AI agents, Wed Nov 11 2026. No macro, syntax, notation, axiom, sorry.
-/
import Derived.Test.YtgbpnghgcffkbaaGreatDoorRows
import GoSem.ClaimSeven
namespace Go.Proofs.YtgbpnghgcffkbaaGreatDoor
namespace Rows

/-- THE TIED CARD OF 'ephemeralaw10.RightsReadsMatchSpec'. -/
def rightsReadsMatchSpecCard : Claim7 := { stood := { row := rightsReadsMatchSpecRow, standIns := [], harness := (true, "671d529fb07d18cf7c7169974a350c82bab982e81243f8d78815751156570af0"), looks := true }, kinds := [], alts := [], laidByText := true, laidKinds := [.data, .data, .data, .data, .sentinel, .sentinel, .pinned], laidTests := true, laidLooks := .later }
def RightsReadsMatchSpecCardSaid : Prop := Claim7.holds Tryz.pinned (.plain (OpenSpec.ofChange rightsReadsMatchSpecSpec)) rightsReadsMatchSpecCard

/-- THE TIED CARD OF 'ephemeralaw10.RightsIdleMatchesSpec'. -/
def rightsIdleMatchesSpecCard : Claim7 := { stood := { row := rightsIdleMatchesSpecRow, standIns := [], harness := (true, "671d529fb07d18cf7c7169974a350c82bab982e81243f8d78815751156570af0"), looks := true }, kinds := [], alts := [], laidByText := true, laidKinds := [.data, .pinned], laidTests := true, laidLooks := .later }
def RightsIdleMatchesSpecCardSaid : Prop := Claim7.holds Tryz.pinned (.plain (OpenSpec.ofChange rightsIdleMatchesSpecSpec)) rightsIdleMatchesSpecCard

/-- THE TIED CARD OF 'ephemeralaw10.RightsTextsMatchSpec'. -/
def rightsTextsMatchSpecCard : Claim7 := { stood := { row := rightsTextsMatchSpecRow, standIns := [], harness := (true, "671d529fb07d18cf7c7169974a350c82bab982e81243f8d78815751156570af0"), looks := true }, kinds := [], alts := [], laidByText := true, laidKinds := [.data, .data, .data, .data, .sentinel, .sentinel, .pinned], laidTests := true, laidLooks := .later }
def RightsTextsMatchSpecCardSaid : Prop := Claim7.holds Tryz.pinned (.plain (OpenSpec.ofChange rightsTextsMatchSpecSpec)) rightsTextsMatchSpecCard

/-- THE TIED CARD OF 'ephemeralaw10.RightsCountsOfShownMatchSpec'. -/
def rightsCountsOfShownMatchSpecCard : Claim7 := { stood := { row := rightsCountsOfShownMatchSpecRow, standIns := [], harness := (true, "671d529fb07d18cf7c7169974a350c82bab982e81243f8d78815751156570af0"), looks := true }, kinds := [], alts := [], laidByText := true, laidKinds := [.data, .pinned], laidTests := true, laidLooks := .later }
def RightsCountsOfShownMatchSpecCardSaid : Prop := Claim7.holds Tryz.pinned (.plain (OpenSpec.ofChange rightsCountsOfShownMatchSpecSpec)) rightsCountsOfShownMatchSpecCard

/-- THE SECOND FORM's CARD OF 'ephemeralaw10.RightsReadsMatchSpec'. -/
def rightsReadsMatchSpecUptoCard : Claim7 := { stood := { row := rightsReadsMatchSpecUptoRow, standIns := [], harness := (true, "671d529fb07d18cf7c7169974a350c82bab982e81243f8d78815751156570af0"), looks := true }, kinds := [], alts := [], laidByText := true, laidKinds := [.data, .data, .data, .data, .sentinel, .sentinel, .pinned], laidTests := true, laidLooks := .later }
def RightsReadsMatchSpecUptoCardSaid : Prop := Claim7.holds Tryz.pinned (.plain (OpenSpec.upto rightsReadsMatchSpecSpec)) rightsReadsMatchSpecUptoCard

/-- THE SECOND FORM's CARD OF 'ephemeralaw10.RightsIdleMatchesSpec'. -/
def rightsIdleMatchesSpecUptoCard : Claim7 := { stood := { row := rightsIdleMatchesSpecUptoRow, standIns := [], harness := (true, "671d529fb07d18cf7c7169974a350c82bab982e81243f8d78815751156570af0"), looks := true }, kinds := [], alts := [], laidByText := true, laidKinds := [.data, .pinned], laidTests := true, laidLooks := .later }
def RightsIdleMatchesSpecUptoCardSaid : Prop := Claim7.holds Tryz.pinned (.plain (OpenSpec.upto rightsIdleMatchesSpecSpec)) rightsIdleMatchesSpecUptoCard

/-- THE SECOND FORM's CARD OF 'ephemeralaw10.RightsTextsMatchSpec'. -/
def rightsTextsMatchSpecUptoCard : Claim7 := { stood := { row := rightsTextsMatchSpecUptoRow, standIns := [], harness := (true, "671d529fb07d18cf7c7169974a350c82bab982e81243f8d78815751156570af0"), looks := true }, kinds := [], alts := [], laidByText := true, laidKinds := [.data, .data, .data, .data, .sentinel, .sentinel, .pinned], laidTests := true, laidLooks := .later }
def RightsTextsMatchSpecUptoCardSaid : Prop := Claim7.holds Tryz.pinned (.plain (OpenSpec.upto rightsTextsMatchSpecSpec)) rightsTextsMatchSpecUptoCard

/-- THE SECOND FORM's CARD OF 'ephemeralaw10.RightsCountsOfShownMatchSpec'. -/
def rightsCountsOfShownMatchSpecUptoCard : Claim7 := { stood := { row := rightsCountsOfShownMatchSpecUptoRow, standIns := [], harness := (true, "671d529fb07d18cf7c7169974a350c82bab982e81243f8d78815751156570af0"), looks := true }, kinds := [], alts := [], laidByText := true, laidKinds := [.data, .pinned], laidTests := true, laidLooks := .later }
def RightsCountsOfShownMatchSpecUptoCardSaid : Prop := Claim7.holds Tryz.pinned (.plain (OpenSpec.upto rightsCountsOfShownMatchSpecSpec)) rightsCountsOfShownMatchSpecUptoCard
end Rows
end Go.Proofs.YtgbpnghgcffkbaaGreatDoor
