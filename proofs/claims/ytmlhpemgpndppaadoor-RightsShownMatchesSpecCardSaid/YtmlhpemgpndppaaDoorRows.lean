/-
  NARROWER THAN 'FOR EVERY INPUT', by the rows' own cells (each row's printed sentence says how): RightsCountsMatchSpec: laid · RightsForNobodyHide: laid · RightsTeamsMatchSpec: laid · RightsRoomIsUsedUp: laid · RightsShownMatchesSpec: laid.
  DERIVED. THE GIVEN ROWS OF THIS SEAT. 5 by the template 'for every input the law returns true; each argument reads behind the call as it read before'; 0 by the template 'total and deterministic' (their statements: YtmlhpemgpndppaaDoorTotals.lean).
  GIVEN WITH THE SEED: the statements are not yours to turn. If you find one false, say at which input.
  Laid BY PROGRAM, IN A SANDBOX (cutbox-rows.mjs): the forced cells as the released guide's own fill.sh prints them over the translation d859db33a3ff8227… (all of the seat's roots in one cut). By AI agents, Wed Nov 11 2026. No macro, syntax, notation, axiom, sorry.
-/
import Derived.Test.YtmlhpemgpndppaaDoorChecked
import GoSem.PinnedTables
import GoSem.Claim
import GoSem.ClaimJoined
import GoSem.ClaimMapViews
import Derived.JoinedTies
import Derived.KernelRfl
namespace Go.Proofs.YtmlhpemgpndppaaDoor
/- THE CELL 'sum', in the pinned program and in every row, IS THE sha256 OF THE DUMP (.gsa) THAT YtmlhpemgpndppaaDoorProg.lean LOADS. Nothing in Lean hashes anything: it is a label: what it is worth is what the hold of that sum in a sandbox is worth. -/
noncomputable def Tryd.pinned : Pinned := { name := "ytmlhpemgpndppaadoor", sum := "d859db33a3ff822710f5106481da79cf6189b3f39d3e8f1812fd7aecd48a69b7", checked := Tryd.checked }
namespace Rows
def none {H : Type} : Left H := { results := [], args := [] }

/- WHAT THE LISTED PACKAGE-LEVEL VARIABLES READ AS WHEN THE CALL BEGINS. Each datum BY PROGRAM (the guide's laid-datum.mjs) off the statement by which the dump's own 'gosem.cut.vars' lays the variable. In a bare row this is a premise. The card (YtmlhpemgpndppaaDoorCards.lean) ties it to the program's text. -/
def laid_unicode_utf8_acceptRanges {H : Type} : DataW H := .agg [.agg [.lit (.int .u8 128), .lit (.int .u8 191)], .agg [.lit (.int .u8 160), .lit (.int .u8 191)], .agg [.lit (.int .u8 128), .lit (.int .u8 159)], .agg [.lit (.int .u8 144), .lit (.int .u8 191)], .agg [.lit (.int .u8 128), .lit (.int .u8 143)], .agg [.lit (.int .u8 0), .lit (.int .u8 0)], .agg [.lit (.int .u8 0), .lit (.int .u8 0)], .agg [.lit (.int .u8 0), .lit (.int .u8 0)], .agg [.lit (.int .u8 0), .lit (.int .u8 0)], .agg [.lit (.int .u8 0), .lit (.int .u8 0)], .agg [.lit (.int .u8 0), .lit (.int .u8 0)], .agg [.lit (.int .u8 0), .lit (.int .u8 0)], .agg [.lit (.int .u8 0), .lit (.int .u8 0)], .agg [.lit (.int .u8 0), .lit (.int .u8 0)], .agg [.lit (.int .u8 0), .lit (.int .u8 0)], .agg [.lit (.int .u8 0), .lit (.int .u8 0)]]
/-- One of Go's own tables, pinned by name: the form's constant. -/
def laid_unicode_utf8_first : DataW Unit := Go.Pinned.utf8First

/-- 'ephemeralaw10.RightsCountsMatchSpec': WHATEVER THE INPUT: true; the input reads as it did. -/
def rightsCountsMatchSpecSpec : ChangeSpec := { name := "rightsCountsMatchSpec", fn := fun _ => fun
  | [d1, d2, d3, d4, d5] => { results := [.lit (.bool true)], args := [d1, d2, d3, d4, d5] }
  | _ => none }
def rightsCountsMatchSpecRow : OpenClaim := { program := "ytmlhpemgpndppaadoor", sum := "d859db33a3ff822710f5106481da79cf6189b3f39d3e8f1812fd7aecd48a69b7", func := "ephemera/ephemeralaw10.RightsCountsMatchSpec", spec := "rightsCountsMatchSpec", inPlace := ["internal/bytealg.IndexByteString", "internal/bytealg.IndexString", "internal/bytealg.abigen_runtime_cmpstring"], unfollowed := true, recurses := true, named := ["unicode/utf8.first", "unicode/utf8.acceptRanges", "internal/bytealg.MaxLen"], plainKeys := false, apart := false, laid := [("unicode/utf8.acceptRanges", laid_unicode_utf8_acceptRanges), ("unicode/utf8.first", laid_unicode_utf8_first)] }
def RightsCountsMatchSpecSaid : Prop := rightsCountsMatchSpecRow.holds Tryd.pinned (OpenSpec.ofChange rightsCountsMatchSpecSpec)

/-- ITS FALSE NEIGHBOUR: 'it returns false'. Refute it at one input. -/
def rightsCountsMatchSpecWrong : ChangeSpec := { name := "rightsCountsMatchSpec", fn := fun _ => fun
  | [d1, d2, d3, d4, d5] => { results := [.lit (.bool false)], args := [d1, d2, d3, d4, d5] }
  | _ => none }
def RightsCountsMatchSpecWrongFalsely : Prop := rightsCountsMatchSpecRow.holds Tryd.pinned (OpenSpec.ofChange rightsCountsMatchSpecWrong)

/-- 'ephemeralaw10.RightsForNobodyHide': WHATEVER THE INPUT: true; the input reads as it did. -/
def rightsForNobodyHideSpec : ChangeSpec := { name := "rightsForNobodyHide", fn := fun _ => fun
  | [d1, d2, d3, d4, d5] => { results := [.lit (.bool true)], args := [d1, d2, d3, d4, d5] }
  | _ => none }
def rightsForNobodyHideRow : OpenClaim := { program := "ytmlhpemgpndppaadoor", sum := "d859db33a3ff822710f5106481da79cf6189b3f39d3e8f1812fd7aecd48a69b7", func := "ephemera/ephemeralaw10.RightsForNobodyHide", spec := "rightsForNobodyHide", inPlace := ["internal/bytealg.IndexByteString", "internal/bytealg.IndexString", "internal/bytealg.abigen_runtime_cmpstring"], unfollowed := true, recurses := true, named := ["unicode/utf8.first", "unicode/utf8.acceptRanges", "internal/bytealg.MaxLen"], plainKeys := false, apart := false, laid := [("unicode/utf8.acceptRanges", laid_unicode_utf8_acceptRanges), ("unicode/utf8.first", laid_unicode_utf8_first)] }
def RightsForNobodyHideSaid : Prop := rightsForNobodyHideRow.holds Tryd.pinned (OpenSpec.ofChange rightsForNobodyHideSpec)

/-- ITS FALSE NEIGHBOUR: 'it returns false'. Refute it at one input. -/
def rightsForNobodyHideWrong : ChangeSpec := { name := "rightsForNobodyHide", fn := fun _ => fun
  | [d1, d2, d3, d4, d5] => { results := [.lit (.bool false)], args := [d1, d2, d3, d4, d5] }
  | _ => none }
def RightsForNobodyHideWrongFalsely : Prop := rightsForNobodyHideRow.holds Tryd.pinned (OpenSpec.ofChange rightsForNobodyHideWrong)

/-- 'ephemeralaw10.RightsTeamsMatchSpec': WHATEVER THE INPUT: true; the input reads as it did. -/
def rightsTeamsMatchSpecSpec : ChangeSpec := { name := "rightsTeamsMatchSpec", fn := fun _ => fun
  | [d1, d2] => { results := [.lit (.bool true)], args := [d1, d2] }
  | _ => none }
def rightsTeamsMatchSpecRow : OpenClaim := { program := "ytmlhpemgpndppaadoor", sum := "d859db33a3ff822710f5106481da79cf6189b3f39d3e8f1812fd7aecd48a69b7", func := "ephemera/ephemeralaw10.RightsTeamsMatchSpec", spec := "rightsTeamsMatchSpec", inPlace := ["internal/bytealg.IndexByteString", "internal/bytealg.IndexString", "internal/bytealg.abigen_runtime_cmpstring"], unfollowed := true, recurses := true, named := ["unicode/utf8.first", "unicode/utf8.acceptRanges", "internal/bytealg.MaxLen"], plainKeys := false, apart := false, laid := [("unicode/utf8.acceptRanges", laid_unicode_utf8_acceptRanges), ("unicode/utf8.first", laid_unicode_utf8_first)] }
def RightsTeamsMatchSpecSaid : Prop := rightsTeamsMatchSpecRow.holds Tryd.pinned (OpenSpec.ofChange rightsTeamsMatchSpecSpec)

/-- ITS FALSE NEIGHBOUR: 'it returns false'. Refute it at one input. -/
def rightsTeamsMatchSpecWrong : ChangeSpec := { name := "rightsTeamsMatchSpec", fn := fun _ => fun
  | [d1, d2] => { results := [.lit (.bool false)], args := [d1, d2] }
  | _ => none }
def RightsTeamsMatchSpecWrongFalsely : Prop := rightsTeamsMatchSpecRow.holds Tryd.pinned (OpenSpec.ofChange rightsTeamsMatchSpecWrong)

/-- 'ephemeralaw10.RightsRoomIsUsedUp': WHATEVER THE INPUT: true; the input reads as it did. -/
def rightsRoomIsUsedUpSpec : ChangeSpec := { name := "rightsRoomIsUsedUp", fn := fun _ => fun
  | [d1, d2, d3, d4, d5] => { results := [.lit (.bool true)], args := [d1, d2, d3, d4, d5] }
  | _ => none }
def rightsRoomIsUsedUpRow : OpenClaim := { program := "ytmlhpemgpndppaadoor", sum := "d859db33a3ff822710f5106481da79cf6189b3f39d3e8f1812fd7aecd48a69b7", func := "ephemera/ephemeralaw10.RightsRoomIsUsedUp", spec := "rightsRoomIsUsedUp", inPlace := ["internal/bytealg.IndexByteString", "internal/bytealg.IndexString", "internal/bytealg.abigen_runtime_cmpstring"], unfollowed := true, recurses := true, named := ["unicode/utf8.first", "unicode/utf8.acceptRanges", "internal/bytealg.MaxLen"], plainKeys := false, apart := false, laid := [("unicode/utf8.acceptRanges", laid_unicode_utf8_acceptRanges), ("unicode/utf8.first", laid_unicode_utf8_first)] }
def RightsRoomIsUsedUpSaid : Prop := rightsRoomIsUsedUpRow.holds Tryd.pinned (OpenSpec.ofChange rightsRoomIsUsedUpSpec)

/-- ITS FALSE NEIGHBOUR: 'it returns false'. Refute it at one input. -/
def rightsRoomIsUsedUpWrong : ChangeSpec := { name := "rightsRoomIsUsedUp", fn := fun _ => fun
  | [d1, d2, d3, d4, d5] => { results := [.lit (.bool false)], args := [d1, d2, d3, d4, d5] }
  | _ => none }
def RightsRoomIsUsedUpWrongFalsely : Prop := rightsRoomIsUsedUpRow.holds Tryd.pinned (OpenSpec.ofChange rightsRoomIsUsedUpWrong)

/-- 'ephemeralaw10.RightsShownMatchesSpec': WHATEVER THE INPUT: true; the input reads as it did. -/
def rightsShownMatchesSpecSpec : ChangeSpec := { name := "rightsShownMatchesSpec", fn := fun _ => fun
  | [d1, d2, d3, d4] => { results := [.lit (.bool true)], args := [d1, d2, d3, d4] }
  | _ => none }
def rightsShownMatchesSpecRow : OpenClaim := { program := "ytmlhpemgpndppaadoor", sum := "d859db33a3ff822710f5106481da79cf6189b3f39d3e8f1812fd7aecd48a69b7", func := "ephemera/ephemeralaw10.RightsShownMatchesSpec", spec := "rightsShownMatchesSpec", inPlace := ["internal/bytealg.IndexByteString", "internal/bytealg.IndexString", "internal/bytealg.abigen_runtime_cmpstring"], unfollowed := true, recurses := true, named := ["unicode/utf8.first", "unicode/utf8.acceptRanges", "internal/bytealg.MaxLen"], plainKeys := false, apart := false, laid := [("unicode/utf8.acceptRanges", laid_unicode_utf8_acceptRanges), ("unicode/utf8.first", laid_unicode_utf8_first)] }
def RightsShownMatchesSpecSaid : Prop := rightsShownMatchesSpecRow.holds Tryd.pinned (OpenSpec.ofChange rightsShownMatchesSpecSpec)

/-- ITS FALSE NEIGHBOUR: 'it returns false'. Refute it at one input. -/
def rightsShownMatchesSpecWrong : ChangeSpec := { name := "rightsShownMatchesSpec", fn := fun _ => fun
  | [d1, d2, d3, d4] => { results := [.lit (.bool false)], args := [d1, d2, d3, d4] }
  | _ => none }
def RightsShownMatchesSpecWrongFalsely : Prop := rightsShownMatchesSpecRow.holds Tryd.pinned (OpenSpec.ofChange rightsShownMatchesSpecWrong)

/- THE SECOND FORM. 'bulk': how many values and letters a reading holds, each counted each time it is reached (what is shared counts as often as it is met; a slice's spare places count too). A statement '..UptoSaid' is the law's where the arguments, and the package variables that the reading takes, are together of bulk at most 1048576: NARROWER than '..Said'. Prove '..Said' where nothing that the law and all that it calls make is longer than what came in: it says more and counts as full. Else prove '..UptoSaid'. A law counts once. -/
mutual
def uptoBulk {H : Type} : DataW H → Nat
  | .lit (.string bytes) => bytes.length + 1
  | .lit _ => 1
  | .nil => 1
  | .ptr d => uptoBulk d + 1
  | .slice elems spare => uptoBulkAll elems + uptoBulkAll spare + 1
  | .agg parts => uptoBulkAll parts + 1
  | .iface _ d => uptoBulk d + 1
  | .map entries => uptoBulkEntries entries + 1
  | .held _ => 1
def uptoBulkAll {H : Type} : List (DataW H) → Nat
  | [] => 0
  | d :: r => uptoBulk d + uptoBulkAll r
def uptoBulkEntries {H : Type} : List (Lit × DataW H) → Nat
  | [] => 0
  | x :: r => uptoBulkEntry x + uptoBulkEntries r
def uptoBulkEntry {H : Type} : Lit × DataW H → Nat
  | (.string bytes, d) => bytes.length + uptoBulk d + 1
  | (_, d) => uptoBulk d + 1
 end
def uptoSmall : (H : Type) → List (DataW H) → Bool := fun _ ds => decide (uptoBulkAll ds ≤ 1048576)
def OpenSpec.upto (s : _root_.Go.ChangeSpec) : _root_.Go.OpenSpec := { _root_.Go.OpenSpec.ofChange s with cond := some uptoSmall }

/-- 'ephemeralaw10.RightsCountsMatchSpec', WHERE WHAT IT READS IS OF BULK AT MOST 1048576: true; the input reads as it did. -/
def rightsCountsMatchSpecUptoRow : OpenClaim := { program := "ytmlhpemgpndppaadoor", sum := "d859db33a3ff822710f5106481da79cf6189b3f39d3e8f1812fd7aecd48a69b7", func := "ephemera/ephemeralaw10.RightsCountsMatchSpec", spec := "rightsCountsMatchSpec", inPlace := ["internal/bytealg.IndexByteString", "internal/bytealg.IndexString", "internal/bytealg.abigen_runtime_cmpstring"], unfollowed := true, recurses := true, named := ["unicode/utf8.first", "unicode/utf8.acceptRanges", "internal/bytealg.MaxLen"], plainKeys := false, apart := false, laid := [("unicode/utf8.acceptRanges", laid_unicode_utf8_acceptRanges), ("unicode/utf8.first", laid_unicode_utf8_first)], narrowed := true }
def RightsCountsMatchSpecUptoSaid : Prop := rightsCountsMatchSpecUptoRow.holds Tryd.pinned (OpenSpec.upto rightsCountsMatchSpecSpec)

/-- 'ephemeralaw10.RightsForNobodyHide', WHERE WHAT IT READS IS OF BULK AT MOST 1048576: true; the input reads as it did. -/
def rightsForNobodyHideUptoRow : OpenClaim := { program := "ytmlhpemgpndppaadoor", sum := "d859db33a3ff822710f5106481da79cf6189b3f39d3e8f1812fd7aecd48a69b7", func := "ephemera/ephemeralaw10.RightsForNobodyHide", spec := "rightsForNobodyHide", inPlace := ["internal/bytealg.IndexByteString", "internal/bytealg.IndexString", "internal/bytealg.abigen_runtime_cmpstring"], unfollowed := true, recurses := true, named := ["unicode/utf8.first", "unicode/utf8.acceptRanges", "internal/bytealg.MaxLen"], plainKeys := false, apart := false, laid := [("unicode/utf8.acceptRanges", laid_unicode_utf8_acceptRanges), ("unicode/utf8.first", laid_unicode_utf8_first)], narrowed := true }
def RightsForNobodyHideUptoSaid : Prop := rightsForNobodyHideUptoRow.holds Tryd.pinned (OpenSpec.upto rightsForNobodyHideSpec)

/-- 'ephemeralaw10.RightsTeamsMatchSpec', WHERE WHAT IT READS IS OF BULK AT MOST 1048576: true; the input reads as it did. -/
def rightsTeamsMatchSpecUptoRow : OpenClaim := { program := "ytmlhpemgpndppaadoor", sum := "d859db33a3ff822710f5106481da79cf6189b3f39d3e8f1812fd7aecd48a69b7", func := "ephemera/ephemeralaw10.RightsTeamsMatchSpec", spec := "rightsTeamsMatchSpec", inPlace := ["internal/bytealg.IndexByteString", "internal/bytealg.IndexString", "internal/bytealg.abigen_runtime_cmpstring"], unfollowed := true, recurses := true, named := ["unicode/utf8.first", "unicode/utf8.acceptRanges", "internal/bytealg.MaxLen"], plainKeys := false, apart := false, laid := [("unicode/utf8.acceptRanges", laid_unicode_utf8_acceptRanges), ("unicode/utf8.first", laid_unicode_utf8_first)], narrowed := true }
def RightsTeamsMatchSpecUptoSaid : Prop := rightsTeamsMatchSpecUptoRow.holds Tryd.pinned (OpenSpec.upto rightsTeamsMatchSpecSpec)

/-- 'ephemeralaw10.RightsRoomIsUsedUp', WHERE WHAT IT READS IS OF BULK AT MOST 1048576: true; the input reads as it did. -/
def rightsRoomIsUsedUpUptoRow : OpenClaim := { program := "ytmlhpemgpndppaadoor", sum := "d859db33a3ff822710f5106481da79cf6189b3f39d3e8f1812fd7aecd48a69b7", func := "ephemera/ephemeralaw10.RightsRoomIsUsedUp", spec := "rightsRoomIsUsedUp", inPlace := ["internal/bytealg.IndexByteString", "internal/bytealg.IndexString", "internal/bytealg.abigen_runtime_cmpstring"], unfollowed := true, recurses := true, named := ["unicode/utf8.first", "unicode/utf8.acceptRanges", "internal/bytealg.MaxLen"], plainKeys := false, apart := false, laid := [("unicode/utf8.acceptRanges", laid_unicode_utf8_acceptRanges), ("unicode/utf8.first", laid_unicode_utf8_first)], narrowed := true }
def RightsRoomIsUsedUpUptoSaid : Prop := rightsRoomIsUsedUpUptoRow.holds Tryd.pinned (OpenSpec.upto rightsRoomIsUsedUpSpec)

/-- 'ephemeralaw10.RightsShownMatchesSpec', WHERE WHAT IT READS IS OF BULK AT MOST 1048576: true; the input reads as it did. -/
def rightsShownMatchesSpecUptoRow : OpenClaim := { program := "ytmlhpemgpndppaadoor", sum := "d859db33a3ff822710f5106481da79cf6189b3f39d3e8f1812fd7aecd48a69b7", func := "ephemera/ephemeralaw10.RightsShownMatchesSpec", spec := "rightsShownMatchesSpec", inPlace := ["internal/bytealg.IndexByteString", "internal/bytealg.IndexString", "internal/bytealg.abigen_runtime_cmpstring"], unfollowed := true, recurses := true, named := ["unicode/utf8.first", "unicode/utf8.acceptRanges", "internal/bytealg.MaxLen"], plainKeys := false, apart := false, laid := [("unicode/utf8.acceptRanges", laid_unicode_utf8_acceptRanges), ("unicode/utf8.first", laid_unicode_utf8_first)], narrowed := true }
def RightsShownMatchesSpecUptoSaid : Prop := rightsShownMatchesSpecUptoRow.holds Tryd.pinned (OpenSpec.upto rightsShownMatchesSpecSpec)

end Rows
end Go.Proofs.YtmlhpemgpndppaaDoor
