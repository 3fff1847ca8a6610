/-
  No cell of these rows narrows 'for every input' (looked for: loops, veiled, ifaces, maps, wideKeys, modest, calm, conditions, laid).
  DERIVED. THE GIVEN ROWS OF THIS SEAT. 7 by the template 'for every input the law returns true; each argument reads behind the call as it read before'; 0 by the template 'total and deterministic' (their statements: YtllbklnljmgppaaTotals.lean).
  GIVEN WITH THE SEED: the statements are not yours to turn. If you find one false, say at which input.
  Laid BY PROGRAM, IN A SANDBOX (cutbox-rows.mjs): the forced cells as the released guide's own fill.sh prints them over the translation 36f4ed62b96c893c… (all of the seat's roots in one cut). By AI agents, Wed Nov 11 2026. No macro, syntax, notation, axiom, sorry.
-/
import Derived.Test.YtllbklnljmgppaaChecked
import GoSem.Claim
import GoSem.ClaimJoined
import GoSem.ClaimMapViews
import Derived.JoinedTies
import Derived.KernelRfl
namespace Go.Proofs.Ytllbklnljmgppaa
/- THE CELL 'sum', in the pinned program and in every row, IS THE sha256 OF THE DUMP (.gsa) THAT YtllbklnljmgppaaProg.lean LOADS. Nothing in Lean hashes anything: it is a label: what it is worth is what the hold of that sum in a sandbox is worth. -/
noncomputable def Try.pinned : Pinned := { name := "ytllbklnljmgppaa", sum := "36f4ed62b96c893cfcb65f989f55d794b6c5f0db7a62a23f526b39bd12127cb3", checked := Try.checked }
namespace Rows
def none {H : Type} : Left H := { results := [], args := [] }

/-- 'ephemeralaw7.AlikeSignaturesJoin': WHATEVER THE INPUT: true; the input reads as it did. -/
def alikeSignaturesJoinSpec : ChangeSpec := { name := "alikeSignaturesJoin", fn := fun _ => fun
  | [d1, d2, d3] => { results := [.lit (.bool true)], args := [d1, d2, d3] }
  | _ => none }
def alikeSignaturesJoinRow : OpenClaim := { program := "ytllbklnljmgppaa", sum := "36f4ed62b96c893cfcb65f989f55d794b6c5f0db7a62a23f526b39bd12127cb3", func := "ephemera/ephemeralaw7.AlikeSignaturesJoin", spec := "alikeSignaturesJoin", inPlace := ["internal/abi.NoEscape", "internal/bytealg.MakeNoZero"], recurses := true, apart := false }
def AlikeSignaturesJoinSaid : Prop := alikeSignaturesJoinRow.holds Try.pinned (OpenSpec.ofChange alikeSignaturesJoinSpec)

/-- ITS FALSE NEIGHBOUR: 'it returns false'. Refute it at one input. -/
def alikeSignaturesJoinWrong : ChangeSpec := { name := "alikeSignaturesJoin", fn := fun _ => fun
  | [d1, d2, d3] => { results := [.lit (.bool false)], args := [d1, d2, d3] }
  | _ => none }
def AlikeSignaturesJoinWrongFalsely : Prop := alikeSignaturesJoinRow.holds Try.pinned (OpenSpec.ofChange alikeSignaturesJoinWrong)

/-- 'ephemeralaw7.AlikeWordsMatchSpec': WHATEVER THE INPUT: true; the input reads as it did. -/
def alikeWordsMatchSpecSpec : ChangeSpec := { name := "alikeWordsMatchSpec", fn := fun _ => fun
  | [d1, d2] => { results := [.lit (.bool true)], args := [d1, d2] }
  | _ => none }
def alikeWordsMatchSpecRow : OpenClaim := { program := "ytllbklnljmgppaa", sum := "36f4ed62b96c893cfcb65f989f55d794b6c5f0db7a62a23f526b39bd12127cb3", func := "ephemera/ephemeralaw7.AlikeWordsMatchSpec", spec := "alikeWordsMatchSpec", inPlace := ["internal/abi.NoEscape", "internal/bytealg.MakeNoZero"], recurses := true, apart := false }
def AlikeWordsMatchSpecSaid : Prop := alikeWordsMatchSpecRow.holds Try.pinned (OpenSpec.ofChange alikeWordsMatchSpecSpec)

/-- ITS FALSE NEIGHBOUR: 'it returns false'. Refute it at one input. -/
def alikeWordsMatchSpecWrong : ChangeSpec := { name := "alikeWordsMatchSpec", fn := fun _ => fun
  | [d1, d2] => { results := [.lit (.bool false)], args := [d1, d2] }
  | _ => none }
def AlikeWordsMatchSpecWrongFalsely : Prop := alikeWordsMatchSpecRow.holds Try.pinned (OpenSpec.ofChange alikeWordsMatchSpecWrong)

/-- 'ephemeralaw7.AlikeResemblancesAreMutual': WHATEVER THE INPUT: true; the input reads as it did. -/
def alikeResemblancesAreMutualSpec : ChangeSpec := { name := "alikeResemblancesAreMutual", fn := fun _ => fun
  | [d1, d2, d3] => { results := [.lit (.bool true)], args := [d1, d2, d3] }
  | _ => none }
def alikeResemblancesAreMutualRow : OpenClaim := { program := "ytllbklnljmgppaa", sum := "36f4ed62b96c893cfcb65f989f55d794b6c5f0db7a62a23f526b39bd12127cb3", func := "ephemera/ephemeralaw7.AlikeResemblancesAreMutual", spec := "alikeResemblancesAreMutual", inPlace := ["internal/abi.NoEscape", "internal/bytealg.MakeNoZero"], recurses := true, apart := false }
def AlikeResemblancesAreMutualSaid : Prop := alikeResemblancesAreMutualRow.holds Try.pinned (OpenSpec.ofChange alikeResemblancesAreMutualSpec)

/-- ITS FALSE NEIGHBOUR: 'it returns false'. Refute it at one input. -/
def alikeResemblancesAreMutualWrong : ChangeSpec := { name := "alikeResemblancesAreMutual", fn := fun _ => fun
  | [d1, d2, d3] => { results := [.lit (.bool false)], args := [d1, d2, d3] }
  | _ => none }
def AlikeResemblancesAreMutualWrongFalsely : Prop := alikeResemblancesAreMutualRow.holds Try.pinned (OpenSpec.ofChange alikeResemblancesAreMutualWrong)

/-- 'ephemeralaw7.AlikeSignaturesMatchSpec': WHATEVER THE INPUT: true; the input reads as it did. -/
def alikeSignaturesMatchSpecSpec : ChangeSpec := { name := "alikeSignaturesMatchSpec", fn := fun _ => fun
  | [d1, d2, d3, d4, d5, d6, d7] => { results := [.lit (.bool true)], args := [d1, d2, d3, d4, d5, d6, d7] }
  | _ => none }
def alikeSignaturesMatchSpecRow : OpenClaim := { program := "ytllbklnljmgppaa", sum := "36f4ed62b96c893cfcb65f989f55d794b6c5f0db7a62a23f526b39bd12127cb3", func := "ephemera/ephemeralaw7.AlikeSignaturesMatchSpec", spec := "alikeSignaturesMatchSpec", inPlace := ["internal/abi.NoEscape", "internal/bytealg.MakeNoZero"], recurses := true, apart := false }
def AlikeSignaturesMatchSpecSaid : Prop := alikeSignaturesMatchSpecRow.holds Try.pinned (OpenSpec.ofChange alikeSignaturesMatchSpecSpec)

/-- ITS FALSE NEIGHBOUR: 'it returns false'. Refute it at one input. -/
def alikeSignaturesMatchSpecWrong : ChangeSpec := { name := "alikeSignaturesMatchSpec", fn := fun _ => fun
  | [d1, d2, d3, d4, d5, d6, d7] => { results := [.lit (.bool false)], args := [d1, d2, d3, d4, d5, d6, d7] }
  | _ => none }
def AlikeSignaturesMatchSpecWrongFalsely : Prop := alikeSignaturesMatchSpecRow.holds Try.pinned (OpenSpec.ofChange alikeSignaturesMatchSpecWrong)

/-- 'ephemeralaw7.AlikeResemblancesMatchSpec': WHATEVER THE INPUT: true; the input reads as it did. -/
def alikeResemblancesMatchSpecSpec : ChangeSpec := { name := "alikeResemblancesMatchSpec", fn := fun _ => fun
  | [d1, d2, d3] => { results := [.lit (.bool true)], args := [d1, d2, d3] }
  | _ => none }
def alikeResemblancesMatchSpecRow : OpenClaim := { program := "ytllbklnljmgppaa", sum := "36f4ed62b96c893cfcb65f989f55d794b6c5f0db7a62a23f526b39bd12127cb3", func := "ephemera/ephemeralaw7.AlikeResemblancesMatchSpec", spec := "alikeResemblancesMatchSpec", inPlace := ["internal/abi.NoEscape", "internal/bytealg.MakeNoZero"], recurses := true, apart := false }
def AlikeResemblancesMatchSpecSaid : Prop := alikeResemblancesMatchSpecRow.holds Try.pinned (OpenSpec.ofChange alikeResemblancesMatchSpecSpec)

/-- ITS FALSE NEIGHBOUR: 'it returns false'. Refute it at one input. -/
def alikeResemblancesMatchSpecWrong : ChangeSpec := { name := "alikeResemblancesMatchSpec", fn := fun _ => fun
  | [d1, d2, d3] => { results := [.lit (.bool false)], args := [d1, d2, d3] }
  | _ => none }
def AlikeResemblancesMatchSpecWrongFalsely : Prop := alikeResemblancesMatchSpecRow.holds Try.pinned (OpenSpec.ofChange alikeResemblancesMatchSpecWrong)

/-- 'ephemeralaw7.AlikeClustersHoldAll': WHATEVER THE INPUT: true; the input reads as it did. -/
def alikeClustersHoldAllSpec : ChangeSpec := { name := "alikeClustersHoldAll", fn := fun _ => fun
  | [d1, d2, d3] => { results := [.lit (.bool true)], args := [d1, d2, d3] }
  | _ => none }
def alikeClustersHoldAllRow : OpenClaim := { program := "ytllbklnljmgppaa", sum := "36f4ed62b96c893cfcb65f989f55d794b6c5f0db7a62a23f526b39bd12127cb3", func := "ephemera/ephemeralaw7.AlikeClustersHoldAll", spec := "alikeClustersHoldAll", inPlace := ["internal/abi.NoEscape", "internal/bytealg.MakeNoZero"], recurses := true, apart := false }
def AlikeClustersHoldAllSaid : Prop := alikeClustersHoldAllRow.holds Try.pinned (OpenSpec.ofChange alikeClustersHoldAllSpec)

/-- ITS FALSE NEIGHBOUR: 'it returns false'. Refute it at one input. -/
def alikeClustersHoldAllWrong : ChangeSpec := { name := "alikeClustersHoldAll", fn := fun _ => fun
  | [d1, d2, d3] => { results := [.lit (.bool false)], args := [d1, d2, d3] }
  | _ => none }
def AlikeClustersHoldAllWrongFalsely : Prop := alikeClustersHoldAllRow.holds Try.pinned (OpenSpec.ofChange alikeClustersHoldAllWrong)

/-- 'ephemeralaw7.AlikeClustersMatchSpec': WHATEVER THE INPUT: true; the input reads as it did. -/
def alikeClustersMatchSpecSpec : ChangeSpec := { name := "alikeClustersMatchSpec", fn := fun _ => fun
  | [d1, d2, d3] => { results := [.lit (.bool true)], args := [d1, d2, d3] }
  | _ => none }
def alikeClustersMatchSpecRow : OpenClaim := { program := "ytllbklnljmgppaa", sum := "36f4ed62b96c893cfcb65f989f55d794b6c5f0db7a62a23f526b39bd12127cb3", func := "ephemera/ephemeralaw7.AlikeClustersMatchSpec", spec := "alikeClustersMatchSpec", inPlace := ["internal/abi.NoEscape", "internal/bytealg.MakeNoZero"], recurses := true, apart := false }
def AlikeClustersMatchSpecSaid : Prop := alikeClustersMatchSpecRow.holds Try.pinned (OpenSpec.ofChange alikeClustersMatchSpecSpec)

/-- ITS FALSE NEIGHBOUR: 'it returns false'. Refute it at one input. -/
def alikeClustersMatchSpecWrong : ChangeSpec := { name := "alikeClustersMatchSpec", fn := fun _ => fun
  | [d1, d2, d3] => { results := [.lit (.bool false)], args := [d1, d2, d3] }
  | _ => none }
def AlikeClustersMatchSpecWrongFalsely : Prop := alikeClustersMatchSpecRow.holds Try.pinned (OpenSpec.ofChange alikeClustersMatchSpecWrong)

/- THE SECOND FORM. 'bulk': how many values and letters a reading holds, each counted each time it is reached (what is shared counts as often as it is met; a slice's spare places count too). A statement '..UptoSaid' is the law's where the arguments, and the package variables that the reading takes, are together of bulk at most 1048576: NARROWER than '..Said'. Prove '..Said' where nothing that the law and all that it calls make is longer than what came in: it says more and counts as full. Else prove '..UptoSaid'. A law counts once. -/
mutual
def uptoBulk {H : Type} : DataW H → Nat
  | .lit (.string bytes) => bytes.length + 1
  | .lit _ => 1
  | .nil => 1
  | .ptr d => uptoBulk d + 1
  | .slice elems spare => uptoBulkAll elems + uptoBulkAll spare + 1
  | .agg parts => uptoBulkAll parts + 1
  | .iface _ d => uptoBulk d + 1
  | .map entries => uptoBulkEntries entries + 1
  | .held _ => 1
def uptoBulkAll {H : Type} : List (DataW H) → Nat
  | [] => 0
  | d :: r => uptoBulk d + uptoBulkAll r
def uptoBulkEntries {H : Type} : List (Lit × DataW H) → Nat
  | [] => 0
  | x :: r => uptoBulkEntry x + uptoBulkEntries r
def uptoBulkEntry {H : Type} : Lit × DataW H → Nat
  | (.string bytes, d) => bytes.length + uptoBulk d + 1
  | (_, d) => uptoBulk d + 1
 end
def uptoSmall : (H : Type) → List (DataW H) → Bool := fun _ ds => decide (uptoBulkAll ds ≤ 1048576)
def OpenSpec.upto (s : _root_.Go.ChangeSpec) : _root_.Go.OpenSpec := { _root_.Go.OpenSpec.ofChange s with cond := some uptoSmall }

/-- 'ephemeralaw7.AlikeSignaturesJoin', WHERE WHAT IT READS IS OF BULK AT MOST 1048576: true; the input reads as it did. -/
def alikeSignaturesJoinUptoRow : OpenClaim := { program := "ytllbklnljmgppaa", sum := "36f4ed62b96c893cfcb65f989f55d794b6c5f0db7a62a23f526b39bd12127cb3", func := "ephemera/ephemeralaw7.AlikeSignaturesJoin", spec := "alikeSignaturesJoin", inPlace := ["internal/abi.NoEscape", "internal/bytealg.MakeNoZero"], recurses := true, apart := false, narrowed := true }
def AlikeSignaturesJoinUptoSaid : Prop := alikeSignaturesJoinUptoRow.holds Try.pinned (OpenSpec.upto alikeSignaturesJoinSpec)

/-- 'ephemeralaw7.AlikeWordsMatchSpec', WHERE WHAT IT READS IS OF BULK AT MOST 1048576: true; the input reads as it did. -/
def alikeWordsMatchSpecUptoRow : OpenClaim := { program := "ytllbklnljmgppaa", sum := "36f4ed62b96c893cfcb65f989f55d794b6c5f0db7a62a23f526b39bd12127cb3", func := "ephemera/ephemeralaw7.AlikeWordsMatchSpec", spec := "alikeWordsMatchSpec", inPlace := ["internal/abi.NoEscape", "internal/bytealg.MakeNoZero"], recurses := true, apart := false, narrowed := true }
def AlikeWordsMatchSpecUptoSaid : Prop := alikeWordsMatchSpecUptoRow.holds Try.pinned (OpenSpec.upto alikeWordsMatchSpecSpec)

/-- 'ephemeralaw7.AlikeResemblancesAreMutual', WHERE WHAT IT READS IS OF BULK AT MOST 1048576: true; the input reads as it did. -/
def alikeResemblancesAreMutualUptoRow : OpenClaim := { program := "ytllbklnljmgppaa", sum := "36f4ed62b96c893cfcb65f989f55d794b6c5f0db7a62a23f526b39bd12127cb3", func := "ephemera/ephemeralaw7.AlikeResemblancesAreMutual", spec := "alikeResemblancesAreMutual", inPlace := ["internal/abi.NoEscape", "internal/bytealg.MakeNoZero"], recurses := true, apart := false, narrowed := true }
def AlikeResemblancesAreMutualUptoSaid : Prop := alikeResemblancesAreMutualUptoRow.holds Try.pinned (OpenSpec.upto alikeResemblancesAreMutualSpec)

/-- 'ephemeralaw7.AlikeSignaturesMatchSpec', WHERE WHAT IT READS IS OF BULK AT MOST 1048576: true; the input reads as it did. -/
def alikeSignaturesMatchSpecUptoRow : OpenClaim := { program := "ytllbklnljmgppaa", sum := "36f4ed62b96c893cfcb65f989f55d794b6c5f0db7a62a23f526b39bd12127cb3", func := "ephemera/ephemeralaw7.AlikeSignaturesMatchSpec", spec := "alikeSignaturesMatchSpec", inPlace := ["internal/abi.NoEscape", "internal/bytealg.MakeNoZero"], recurses := true, apart := false, narrowed := true }
def AlikeSignaturesMatchSpecUptoSaid : Prop := alikeSignaturesMatchSpecUptoRow.holds Try.pinned (OpenSpec.upto alikeSignaturesMatchSpecSpec)

/-- 'ephemeralaw7.AlikeResemblancesMatchSpec', WHERE WHAT IT READS IS OF BULK AT MOST 1048576: true; the input reads as it did. -/
def alikeResemblancesMatchSpecUptoRow : OpenClaim := { program := "ytllbklnljmgppaa", sum := "36f4ed62b96c893cfcb65f989f55d794b6c5f0db7a62a23f526b39bd12127cb3", func := "ephemera/ephemeralaw7.AlikeResemblancesMatchSpec", spec := "alikeResemblancesMatchSpec", inPlace := ["internal/abi.NoEscape", "internal/bytealg.MakeNoZero"], recurses := true, apart := false, narrowed := true }
def AlikeResemblancesMatchSpecUptoSaid : Prop := alikeResemblancesMatchSpecUptoRow.holds Try.pinned (OpenSpec.upto alikeResemblancesMatchSpecSpec)

/-- 'ephemeralaw7.AlikeClustersHoldAll', WHERE WHAT IT READS IS OF BULK AT MOST 1048576: true; the input reads as it did. -/
def alikeClustersHoldAllUptoRow : OpenClaim := { program := "ytllbklnljmgppaa", sum := "36f4ed62b96c893cfcb65f989f55d794b6c5f0db7a62a23f526b39bd12127cb3", func := "ephemera/ephemeralaw7.AlikeClustersHoldAll", spec := "alikeClustersHoldAll", inPlace := ["internal/abi.NoEscape", "internal/bytealg.MakeNoZero"], recurses := true, apart := false, narrowed := true }
def AlikeClustersHoldAllUptoSaid : Prop := alikeClustersHoldAllUptoRow.holds Try.pinned (OpenSpec.upto alikeClustersHoldAllSpec)

/-- 'ephemeralaw7.AlikeClustersMatchSpec', WHERE WHAT IT READS IS OF BULK AT MOST 1048576: true; the input reads as it did. -/
def alikeClustersMatchSpecUptoRow : OpenClaim := { program := "ytllbklnljmgppaa", sum := "36f4ed62b96c893cfcb65f989f55d794b6c5f0db7a62a23f526b39bd12127cb3", func := "ephemera/ephemeralaw7.AlikeClustersMatchSpec", spec := "alikeClustersMatchSpec", inPlace := ["internal/abi.NoEscape", "internal/bytealg.MakeNoZero"], recurses := true, apart := false, narrowed := true }
def AlikeClustersMatchSpecUptoSaid : Prop := alikeClustersMatchSpecUptoRow.holds Try.pinned (OpenSpec.upto alikeClustersMatchSpecSpec)

end Rows
end Go.Proofs.Ytllbklnljmgppaa
