/-
  DERIVED. GIVEN WITH THE SEED: THE CARDS: each row of YtmlhpemgpndppaaDoorRows.lean that lists a variable, with what it lists TIED to the program's text (the seventh form; the later family's looks); each row that meets fmt, with fmt's text TOLD by the authors' own Lean function (tested against real Go, not proved from fmt's source: count such statements apart). THE CARD IS WHAT COUNTS. Prove the row's statement (the work); the ties are given (YtmlhpemgpndppaaDoorTie.lean); close each card by the builder's one call (the guide's Derived/Test/ToyasCard.lean, 'card_holds'). Laid BY PROGRAM, IN A SANDBOX (cutbox-door.mjs). By AI agents, Wed Nov 11 2026. No macro, syntax, notation, axiom, sorry.
-/
import Derived.Test.YtmlhpemgpndppaaDoorRows
import GoSem.ClaimSeven
namespace Go.Proofs.YtmlhpemgpndppaaDoor
namespace Rows

/-- THE TIED CARD OF 'ephemeralaw10.RightsCountsMatchSpec'. -/
def rightsCountsMatchSpecCard : Claim7 := { stood := { row := rightsCountsMatchSpecRow, standIns := [], harness := (true, "c544a07282f094f966688aec9aab11b6280342a3914cf87f388081aaa3cf2990"), looks := false }, kinds := [], alts := [], laidByText := true, laidKinds := [.data, .pinned], laidTests := true, laidLooks := .later }
def RightsCountsMatchSpecCardSaid : Prop := Claim7.holds Tryd.pinned (.plain (OpenSpec.ofChange rightsCountsMatchSpecSpec)) rightsCountsMatchSpecCard

/-- THE TIED CARD OF 'ephemeralaw10.RightsForNobodyHide'. -/
def rightsForNobodyHideCard : Claim7 := { stood := { row := rightsForNobodyHideRow, standIns := [], harness := (true, "c544a07282f094f966688aec9aab11b6280342a3914cf87f388081aaa3cf2990"), looks := false }, kinds := [], alts := [], laidByText := true, laidKinds := [.data, .pinned], laidTests := true, laidLooks := .later }
def RightsForNobodyHideCardSaid : Prop := Claim7.holds Tryd.pinned (.plain (OpenSpec.ofChange rightsForNobodyHideSpec)) rightsForNobodyHideCard

/-- THE TIED CARD OF 'ephemeralaw10.RightsTeamsMatchSpec'. -/
def rightsTeamsMatchSpecCard : Claim7 := { stood := { row := rightsTeamsMatchSpecRow, standIns := [], harness := (true, "c544a07282f094f966688aec9aab11b6280342a3914cf87f388081aaa3cf2990"), looks := false }, kinds := [], alts := [], laidByText := true, laidKinds := [.data, .pinned], laidTests := true, laidLooks := .later }
def RightsTeamsMatchSpecCardSaid : Prop := Claim7.holds Tryd.pinned (.plain (OpenSpec.ofChange rightsTeamsMatchSpecSpec)) rightsTeamsMatchSpecCard

/-- THE TIED CARD OF 'ephemeralaw10.RightsRoomIsUsedUp'. -/
def rightsRoomIsUsedUpCard : Claim7 := { stood := { row := rightsRoomIsUsedUpRow, standIns := [], harness := (true, "c544a07282f094f966688aec9aab11b6280342a3914cf87f388081aaa3cf2990"), looks := false }, kinds := [], alts := [], laidByText := true, laidKinds := [.data, .pinned], laidTests := true, laidLooks := .later }
def RightsRoomIsUsedUpCardSaid : Prop := Claim7.holds Tryd.pinned (.plain (OpenSpec.ofChange rightsRoomIsUsedUpSpec)) rightsRoomIsUsedUpCard

/-- THE TIED CARD OF 'ephemeralaw10.RightsShownMatchesSpec'. -/
def rightsShownMatchesSpecCard : Claim7 := { stood := { row := rightsShownMatchesSpecRow, standIns := [], harness := (true, "c544a07282f094f966688aec9aab11b6280342a3914cf87f388081aaa3cf2990"), looks := false }, kinds := [], alts := [], laidByText := true, laidKinds := [.data, .pinned], laidTests := true, laidLooks := .later }
def RightsShownMatchesSpecCardSaid : Prop := Claim7.holds Tryd.pinned (.plain (OpenSpec.ofChange rightsShownMatchesSpecSpec)) rightsShownMatchesSpecCard

/-- THE SECOND FORM's CARD OF 'ephemeralaw10.RightsCountsMatchSpec'. -/
def rightsCountsMatchSpecUptoCard : Claim7 := { stood := { row := rightsCountsMatchSpecUptoRow, standIns := [], harness := (true, "c544a07282f094f966688aec9aab11b6280342a3914cf87f388081aaa3cf2990"), looks := false }, kinds := [], alts := [], laidByText := true, laidKinds := [.data, .pinned], laidTests := true, laidLooks := .later }
def RightsCountsMatchSpecUptoCardSaid : Prop := Claim7.holds Tryd.pinned (.plain (OpenSpec.upto rightsCountsMatchSpecSpec)) rightsCountsMatchSpecUptoCard

/-- THE SECOND FORM's CARD OF 'ephemeralaw10.RightsForNobodyHide'. -/
def rightsForNobodyHideUptoCard : Claim7 := { stood := { row := rightsForNobodyHideUptoRow, standIns := [], harness := (true, "c544a07282f094f966688aec9aab11b6280342a3914cf87f388081aaa3cf2990"), looks := false }, kinds := [], alts := [], laidByText := true, laidKinds := [.data, .pinned], laidTests := true, laidLooks := .later }
def RightsForNobodyHideUptoCardSaid : Prop := Claim7.holds Tryd.pinned (.plain (OpenSpec.upto rightsForNobodyHideSpec)) rightsForNobodyHideUptoCard

/-- THE SECOND FORM's CARD OF 'ephemeralaw10.RightsTeamsMatchSpec'. -/
def rightsTeamsMatchSpecUptoCard : Claim7 := { stood := { row := rightsTeamsMatchSpecUptoRow, standIns := [], harness := (true, "c544a07282f094f966688aec9aab11b6280342a3914cf87f388081aaa3cf2990"), looks := false }, kinds := [], alts := [], laidByText := true, laidKinds := [.data, .pinned], laidTests := true, laidLooks := .later }
def RightsTeamsMatchSpecUptoCardSaid : Prop := Claim7.holds Tryd.pinned (.plain (OpenSpec.upto rightsTeamsMatchSpecSpec)) rightsTeamsMatchSpecUptoCard

/-- THE SECOND FORM's CARD OF 'ephemeralaw10.RightsRoomIsUsedUp'. -/
def rightsRoomIsUsedUpUptoCard : Claim7 := { stood := { row := rightsRoomIsUsedUpUptoRow, standIns := [], harness := (true, "c544a07282f094f966688aec9aab11b6280342a3914cf87f388081aaa3cf2990"), looks := false }, kinds := [], alts := [], laidByText := true, laidKinds := [.data, .pinned], laidTests := true, laidLooks := .later }
def RightsRoomIsUsedUpUptoCardSaid : Prop := Claim7.holds Tryd.pinned (.plain (OpenSpec.upto rightsRoomIsUsedUpSpec)) rightsRoomIsUsedUpUptoCard

/-- THE SECOND FORM's CARD OF 'ephemeralaw10.RightsShownMatchesSpec'. -/
def rightsShownMatchesSpecUptoCard : Claim7 := { stood := { row := rightsShownMatchesSpecUptoRow, standIns := [], harness := (true, "c544a07282f094f966688aec9aab11b6280342a3914cf87f388081aaa3cf2990"), looks := false }, kinds := [], alts := [], laidByText := true, laidKinds := [.data, .pinned], laidTests := true, laidLooks := .later }
def RightsShownMatchesSpecUptoCardSaid : Prop := Claim7.holds Tryd.pinned (.plain (OpenSpec.upto rightsShownMatchesSpecSpec)) rightsShownMatchesSpecUptoCard
end Rows
end Go.Proofs.YtmlhpemgpndppaaDoor
