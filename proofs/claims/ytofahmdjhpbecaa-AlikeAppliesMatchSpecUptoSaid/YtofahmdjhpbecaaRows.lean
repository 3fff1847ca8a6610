/-
  No cell of these rows narrows 'for every input' (looked for: loops, veiled, ifaces, maps, wideKeys, modest, calm, conditions, laid).
  DERIVED. THE GIVEN ROWS OF THIS SEAT. 11 by the template 'for every input the law returns true; each argument reads behind the call as it read before'; 0 by the template 'total and deterministic' (their statements: YtofahmdjhpbecaaTotals.lean).
  GIVEN WITH THE SEED: the statements are not yours to turn. If you find one false, say at which input.
  Laid BY PROGRAM, IN A SANDBOX (cutbox-rows.mjs): the forced cells as the released guide's own fill.sh prints them over the translation d59407e7b8e87451… (all of the seat's roots in one cut). By AI agents, Wed Nov 11 2026. No macro, syntax, notation, axiom, sorry.
-/
import Derived.Test.YtofahmdjhpbecaaChecked
import GoSem.Claim
import GoSem.ClaimJoined
import GoSem.ClaimMapViews
import Derived.JoinedTies
import Derived.KernelRfl
namespace Go.Proofs.Ytofahmdjhpbecaa
/- THE CELL 'sum', in the pinned program and in every row, IS THE sha256 OF THE DUMP (.gsa) THAT YtofahmdjhpbecaaProg.lean LOADS. Nothing in Lean hashes anything: it is a label: what it is worth is what the hold of that sum in a sandbox is worth. -/
noncomputable def Try.pinned : Pinned := { name := "ytofahmdjhpbecaa", sum := "d59407e7b8e87451e937ff47901e06572dafa5f4efc5bb7fc16e917af20e29bc", checked := Try.checked }
namespace Rows
def none {H : Type} : Left H := { results := [], args := [] }

/-- 'ephemeralaw7.AlikeDigestsMatchSpec': WHATEVER THE INPUT: true; the input reads as it did. -/
def alikeDigestsMatchSpecSpec : ChangeSpec := { name := "alikeDigestsMatchSpec", fn := fun _ => fun
  | [d1, d2] => { results := [.lit (.bool true)], args := [d1, d2] }
  | _ => none }
def alikeDigestsMatchSpecRow : OpenClaim := { program := "ytofahmdjhpbecaa", sum := "d59407e7b8e87451e937ff47901e06572dafa5f4efc5bb7fc16e917af20e29bc", func := "ephemera/ephemeralaw7.AlikeDigestsMatchSpec", spec := "alikeDigestsMatchSpec", apart := false }
def AlikeDigestsMatchSpecSaid : Prop := alikeDigestsMatchSpecRow.holds Try.pinned (OpenSpec.ofChange alikeDigestsMatchSpecSpec)

/-- ITS FALSE NEIGHBOUR: 'it returns false'. Refute it at one input. -/
def alikeDigestsMatchSpecWrong : ChangeSpec := { name := "alikeDigestsMatchSpec", fn := fun _ => fun
  | [d1, d2] => { results := [.lit (.bool false)], args := [d1, d2] }
  | _ => none }
def AlikeDigestsMatchSpecWrongFalsely : Prop := alikeDigestsMatchSpecRow.holds Try.pinned (OpenSpec.ofChange alikeDigestsMatchSpecWrong)

/-- 'ephemeralaw7.AlikeCandidatesMatchSpec': WHATEVER THE INPUT: true; the input reads as it did. -/
def alikeCandidatesMatchSpecSpec : ChangeSpec := { name := "alikeCandidatesMatchSpec", fn := fun _ => fun
  | [d1, d2] => { results := [.lit (.bool true)], args := [d1, d2] }
  | _ => none }
def alikeCandidatesMatchSpecRow : OpenClaim := { program := "ytofahmdjhpbecaa", sum := "d59407e7b8e87451e937ff47901e06572dafa5f4efc5bb7fc16e917af20e29bc", func := "ephemera/ephemeralaw7.AlikeCandidatesMatchSpec", spec := "alikeCandidatesMatchSpec", apart := false }
def AlikeCandidatesMatchSpecSaid : Prop := alikeCandidatesMatchSpecRow.holds Try.pinned (OpenSpec.ofChange alikeCandidatesMatchSpecSpec)

/-- ITS FALSE NEIGHBOUR: 'it returns false'. Refute it at one input. -/
def alikeCandidatesMatchSpecWrong : ChangeSpec := { name := "alikeCandidatesMatchSpec", fn := fun _ => fun
  | [d1, d2] => { results := [.lit (.bool false)], args := [d1, d2] }
  | _ => none }
def AlikeCandidatesMatchSpecWrongFalsely : Prop := alikeCandidatesMatchSpecRow.holds Try.pinned (OpenSpec.ofChange alikeCandidatesMatchSpecWrong)

/-- 'ephemeralaw7.AlikeDeltasMatchSpec': WHATEVER THE INPUT: true; the input reads as it did. -/
def alikeDeltasMatchSpecSpec : ChangeSpec := { name := "alikeDeltasMatchSpec", fn := fun _ => fun
  | [d1, d2, d3] => { results := [.lit (.bool true)], args := [d1, d2, d3] }
  | _ => none }
def alikeDeltasMatchSpecRow : OpenClaim := { program := "ytofahmdjhpbecaa", sum := "d59407e7b8e87451e937ff47901e06572dafa5f4efc5bb7fc16e917af20e29bc", func := "ephemera/ephemeralaw7.AlikeDeltasMatchSpec", spec := "alikeDeltasMatchSpec", apart := false }
def AlikeDeltasMatchSpecSaid : Prop := alikeDeltasMatchSpecRow.holds Try.pinned (OpenSpec.ofChange alikeDeltasMatchSpecSpec)

/-- ITS FALSE NEIGHBOUR: 'it returns false'. Refute it at one input. -/
def alikeDeltasMatchSpecWrong : ChangeSpec := { name := "alikeDeltasMatchSpec", fn := fun _ => fun
  | [d1, d2, d3] => { results := [.lit (.bool false)], args := [d1, d2, d3] }
  | _ => none }
def AlikeDeltasMatchSpecWrongFalsely : Prop := alikeDeltasMatchSpecRow.holds Try.pinned (OpenSpec.ofChange alikeDeltasMatchSpecWrong)

/-- 'ephemeralaw7.AlikeFingerprintsMatchSpec': WHATEVER THE INPUT: true; the input reads as it did. -/
def alikeFingerprintsMatchSpecSpec : ChangeSpec := { name := "alikeFingerprintsMatchSpec", fn := fun _ => fun
  | [d1, d2, d3] => { results := [.lit (.bool true)], args := [d1, d2, d3] }
  | _ => none }
def alikeFingerprintsMatchSpecRow : OpenClaim := { program := "ytofahmdjhpbecaa", sum := "d59407e7b8e87451e937ff47901e06572dafa5f4efc5bb7fc16e917af20e29bc", func := "ephemera/ephemeralaw7.AlikeFingerprintsMatchSpec", spec := "alikeFingerprintsMatchSpec", apart := false }
def AlikeFingerprintsMatchSpecSaid : Prop := alikeFingerprintsMatchSpecRow.holds Try.pinned (OpenSpec.ofChange alikeFingerprintsMatchSpecSpec)

/-- ITS FALSE NEIGHBOUR: 'it returns false'. Refute it at one input. -/
def alikeFingerprintsMatchSpecWrong : ChangeSpec := { name := "alikeFingerprintsMatchSpec", fn := fun _ => fun
  | [d1, d2, d3] => { results := [.lit (.bool false)], args := [d1, d2, d3] }
  | _ => none }
def AlikeFingerprintsMatchSpecWrongFalsely : Prop := alikeFingerprintsMatchSpecRow.holds Try.pinned (OpenSpec.ofChange alikeFingerprintsMatchSpecWrong)

/-- 'ephemeralaw7.AlikeChangesMatchSpec': WHATEVER THE INPUT: true; the input reads as it did. -/
def alikeChangesMatchSpecSpec : ChangeSpec := { name := "alikeChangesMatchSpec", fn := fun _ => fun
  | [d1, d2] => { results := [.lit (.bool true)], args := [d1, d2] }
  | _ => none }
def alikeChangesMatchSpecRow : OpenClaim := { program := "ytofahmdjhpbecaa", sum := "d59407e7b8e87451e937ff47901e06572dafa5f4efc5bb7fc16e917af20e29bc", func := "ephemera/ephemeralaw7.AlikeChangesMatchSpec", spec := "alikeChangesMatchSpec", inPlace := ["internal/bytealg.IndexByteString"], apart := false }
def AlikeChangesMatchSpecSaid : Prop := alikeChangesMatchSpecRow.holds Try.pinned (OpenSpec.ofChange alikeChangesMatchSpecSpec)

/-- ITS FALSE NEIGHBOUR: 'it returns false'. Refute it at one input. -/
def alikeChangesMatchSpecWrong : ChangeSpec := { name := "alikeChangesMatchSpec", fn := fun _ => fun
  | [d1, d2] => { results := [.lit (.bool false)], args := [d1, d2] }
  | _ => none }
def AlikeChangesMatchSpecWrongFalsely : Prop := alikeChangesMatchSpecRow.holds Try.pinned (OpenSpec.ofChange alikeChangesMatchSpecWrong)

/-- 'ephemeralaw7.AlikeDeltaBytesMatchSpec': WHATEVER THE INPUT: true; the input reads as it did. -/
def alikeDeltaBytesMatchSpecSpec : ChangeSpec := { name := "alikeDeltaBytesMatchSpec", fn := fun _ => fun
  | [d1, d2] => { results := [.lit (.bool true)], args := [d1, d2] }
  | _ => none }
def alikeDeltaBytesMatchSpecRow : OpenClaim := { program := "ytofahmdjhpbecaa", sum := "d59407e7b8e87451e937ff47901e06572dafa5f4efc5bb7fc16e917af20e29bc", func := "ephemera/ephemeralaw7.AlikeDeltaBytesMatchSpec", spec := "alikeDeltaBytesMatchSpec", apart := false }
def AlikeDeltaBytesMatchSpecSaid : Prop := alikeDeltaBytesMatchSpecRow.holds Try.pinned (OpenSpec.ofChange alikeDeltaBytesMatchSpecSpec)

/-- ITS FALSE NEIGHBOUR: 'it returns false'. Refute it at one input. -/
def alikeDeltaBytesMatchSpecWrong : ChangeSpec := { name := "alikeDeltaBytesMatchSpec", fn := fun _ => fun
  | [d1, d2] => { results := [.lit (.bool false)], args := [d1, d2] }
  | _ => none }
def AlikeDeltaBytesMatchSpecWrongFalsely : Prop := alikeDeltaBytesMatchSpecRow.holds Try.pinned (OpenSpec.ofChange alikeDeltaBytesMatchSpecWrong)

/-- 'ephemeralaw7.AlikeVersionsComeBack': WHATEVER THE INPUT: true; the input reads as it did. -/
def alikeVersionsComeBackSpec : ChangeSpec := { name := "alikeVersionsComeBack", fn := fun _ => fun
  | [d1, d2] => { results := [.lit (.bool true)], args := [d1, d2] }
  | _ => none }
def alikeVersionsComeBackRow : OpenClaim := { program := "ytofahmdjhpbecaa", sum := "d59407e7b8e87451e937ff47901e06572dafa5f4efc5bb7fc16e917af20e29bc", func := "ephemera/ephemeralaw7.AlikeVersionsComeBack", spec := "alikeVersionsComeBack", apart := false }
def AlikeVersionsComeBackSaid : Prop := alikeVersionsComeBackRow.holds Try.pinned (OpenSpec.ofChange alikeVersionsComeBackSpec)

/-- ITS FALSE NEIGHBOUR: 'it returns false'. Refute it at one input. -/
def alikeVersionsComeBackWrong : ChangeSpec := { name := "alikeVersionsComeBack", fn := fun _ => fun
  | [d1, d2] => { results := [.lit (.bool false)], args := [d1, d2] }
  | _ => none }
def AlikeVersionsComeBackWrongFalsely : Prop := alikeVersionsComeBackRow.holds Try.pinned (OpenSpec.ofChange alikeVersionsComeBackWrong)

/-- 'ephemeralaw7.AlikeDeltasComeBack': WHATEVER THE INPUT: true; the input reads as it did. -/
def alikeDeltasComeBackSpec : ChangeSpec := { name := "alikeDeltasComeBack", fn := fun _ => fun
  | [d1, d2] => { results := [.lit (.bool true)], args := [d1, d2] }
  | _ => none }
def alikeDeltasComeBackRow : OpenClaim := { program := "ytofahmdjhpbecaa", sum := "d59407e7b8e87451e937ff47901e06572dafa5f4efc5bb7fc16e917af20e29bc", func := "ephemera/ephemeralaw7.AlikeDeltasComeBack", spec := "alikeDeltasComeBack", apart := false }
def AlikeDeltasComeBackSaid : Prop := alikeDeltasComeBackRow.holds Try.pinned (OpenSpec.ofChange alikeDeltasComeBackSpec)

/-- ITS FALSE NEIGHBOUR: 'it returns false'. Refute it at one input. -/
def alikeDeltasComeBackWrong : ChangeSpec := { name := "alikeDeltasComeBack", fn := fun _ => fun
  | [d1, d2] => { results := [.lit (.bool false)], args := [d1, d2] }
  | _ => none }
def AlikeDeltasComeBackWrongFalsely : Prop := alikeDeltasComeBackRow.holds Try.pinned (OpenSpec.ofChange alikeDeltasComeBackWrong)

/-- 'ephemeralaw7.AlikeVersionsMatchSpec': WHATEVER THE INPUT: true; the input reads as it did. -/
def alikeVersionsMatchSpecSpec : ChangeSpec := { name := "alikeVersionsMatchSpec", fn := fun _ => fun
  | [d1, d2, d3, d4] => { results := [.lit (.bool true)], args := [d1, d2, d3, d4] }
  | _ => none }
def alikeVersionsMatchSpecRow : OpenClaim := { program := "ytofahmdjhpbecaa", sum := "d59407e7b8e87451e937ff47901e06572dafa5f4efc5bb7fc16e917af20e29bc", func := "ephemera/ephemeralaw7.AlikeVersionsMatchSpec", spec := "alikeVersionsMatchSpec", apart := false }
def AlikeVersionsMatchSpecSaid : Prop := alikeVersionsMatchSpecRow.holds Try.pinned (OpenSpec.ofChange alikeVersionsMatchSpecSpec)

/-- ITS FALSE NEIGHBOUR: 'it returns false'. Refute it at one input. -/
def alikeVersionsMatchSpecWrong : ChangeSpec := { name := "alikeVersionsMatchSpec", fn := fun _ => fun
  | [d1, d2, d3, d4] => { results := [.lit (.bool false)], args := [d1, d2, d3, d4] }
  | _ => none }
def AlikeVersionsMatchSpecWrongFalsely : Prop := alikeVersionsMatchSpecRow.holds Try.pinned (OpenSpec.ofChange alikeVersionsMatchSpecWrong)

/-- 'ephemeralaw7.AlikeAppliesMatchSpec': WHATEVER THE INPUT: true; the input reads as it did. -/
def alikeAppliesMatchSpecSpec : ChangeSpec := { name := "alikeAppliesMatchSpec", fn := fun _ => fun
  | [d1, d2] => { results := [.lit (.bool true)], args := [d1, d2] }
  | _ => none }
def alikeAppliesMatchSpecRow : OpenClaim := { program := "ytofahmdjhpbecaa", sum := "d59407e7b8e87451e937ff47901e06572dafa5f4efc5bb7fc16e917af20e29bc", func := "ephemera/ephemeralaw7.AlikeAppliesMatchSpec", spec := "alikeAppliesMatchSpec", inPlace := ["internal/bytealg.IndexByteString", "internal/abi.NoEscape", "internal/bytealg.MakeNoZero"], unfollowed := true, recurses := true, apart := false }
def AlikeAppliesMatchSpecSaid : Prop := alikeAppliesMatchSpecRow.holds Try.pinned (OpenSpec.ofChange alikeAppliesMatchSpecSpec)

/-- ITS FALSE NEIGHBOUR: 'it returns false'. Refute it at one input. -/
def alikeAppliesMatchSpecWrong : ChangeSpec := { name := "alikeAppliesMatchSpec", fn := fun _ => fun
  | [d1, d2] => { results := [.lit (.bool false)], args := [d1, d2] }
  | _ => none }
def AlikeAppliesMatchSpecWrongFalsely : Prop := alikeAppliesMatchSpecRow.holds Try.pinned (OpenSpec.ofChange alikeAppliesMatchSpecWrong)

/-- 'ephemeralaw7.AlikeChangesLeadThere': WHATEVER THE INPUT: true; the input reads as it did. -/
def alikeChangesLeadThereSpec : ChangeSpec := { name := "alikeChangesLeadThere", fn := fun _ => fun
  | [d1, d2] => { results := [.lit (.bool true)], args := [d1, d2] }
  | _ => none }
def alikeChangesLeadThereRow : OpenClaim := { program := "ytofahmdjhpbecaa", sum := "d59407e7b8e87451e937ff47901e06572dafa5f4efc5bb7fc16e917af20e29bc", func := "ephemera/ephemeralaw7.AlikeChangesLeadThere", spec := "alikeChangesLeadThere", inPlace := ["internal/bytealg.IndexByteString", "internal/abi.NoEscape", "internal/bytealg.MakeNoZero"], unfollowed := true, recurses := true, apart := false }
def AlikeChangesLeadThereSaid : Prop := alikeChangesLeadThereRow.holds Try.pinned (OpenSpec.ofChange alikeChangesLeadThereSpec)

/-- ITS FALSE NEIGHBOUR: 'it returns false'. Refute it at one input. -/
def alikeChangesLeadThereWrong : ChangeSpec := { name := "alikeChangesLeadThere", fn := fun _ => fun
  | [d1, d2] => { results := [.lit (.bool false)], args := [d1, d2] }
  | _ => none }
def AlikeChangesLeadThereWrongFalsely : Prop := alikeChangesLeadThereRow.holds Try.pinned (OpenSpec.ofChange alikeChangesLeadThereWrong)

/- THE SECOND FORM. 'bulk': how many values and letters a reading holds, each counted each time it is reached (what is shared counts as often as it is met; a slice's spare places count too). A statement '..UptoSaid' is the law's where the arguments, and the package variables that the reading takes, are together of bulk at most 1048576: NARROWER than '..Said'. Prove '..Said' where nothing that the law and all that it calls make is longer than what came in: it says more and counts as full. Else prove '..UptoSaid'. A law counts once. -/
mutual
def uptoBulk {H : Type} : DataW H → Nat
  | .lit (.string bytes) => bytes.length + 1
  | .lit _ => 1
  | .nil => 1
  | .ptr d => uptoBulk d + 1
  | .slice elems spare => uptoBulkAll elems + uptoBulkAll spare + 1
  | .agg parts => uptoBulkAll parts + 1
  | .iface _ d => uptoBulk d + 1
  | .map entries => uptoBulkEntries entries + 1
  | .held _ => 1
def uptoBulkAll {H : Type} : List (DataW H) → Nat
  | [] => 0
  | d :: r => uptoBulk d + uptoBulkAll r
def uptoBulkEntries {H : Type} : List (Lit × DataW H) → Nat
  | [] => 0
  | x :: r => uptoBulkEntry x + uptoBulkEntries r
def uptoBulkEntry {H : Type} : Lit × DataW H → Nat
  | (.string bytes, d) => bytes.length + uptoBulk d + 1
  | (_, d) => uptoBulk d + 1
 end
def uptoSmall : (H : Type) → List (DataW H) → Bool := fun _ ds => decide (uptoBulkAll ds ≤ 1048576)
def OpenSpec.upto (s : _root_.Go.ChangeSpec) : _root_.Go.OpenSpec := { _root_.Go.OpenSpec.ofChange s with cond := some uptoSmall }

/-- 'ephemeralaw7.AlikeDigestsMatchSpec', WHERE WHAT IT READS IS OF BULK AT MOST 1048576: true; the input reads as it did. -/
def alikeDigestsMatchSpecUptoRow : OpenClaim := { program := "ytofahmdjhpbecaa", sum := "d59407e7b8e87451e937ff47901e06572dafa5f4efc5bb7fc16e917af20e29bc", func := "ephemera/ephemeralaw7.AlikeDigestsMatchSpec", spec := "alikeDigestsMatchSpec", apart := false, narrowed := true }
def AlikeDigestsMatchSpecUptoSaid : Prop := alikeDigestsMatchSpecUptoRow.holds Try.pinned (OpenSpec.upto alikeDigestsMatchSpecSpec)

/-- 'ephemeralaw7.AlikeCandidatesMatchSpec', WHERE WHAT IT READS IS OF BULK AT MOST 1048576: true; the input reads as it did. -/
def alikeCandidatesMatchSpecUptoRow : OpenClaim := { program := "ytofahmdjhpbecaa", sum := "d59407e7b8e87451e937ff47901e06572dafa5f4efc5bb7fc16e917af20e29bc", func := "ephemera/ephemeralaw7.AlikeCandidatesMatchSpec", spec := "alikeCandidatesMatchSpec", apart := false, narrowed := true }
def AlikeCandidatesMatchSpecUptoSaid : Prop := alikeCandidatesMatchSpecUptoRow.holds Try.pinned (OpenSpec.upto alikeCandidatesMatchSpecSpec)

/-- 'ephemeralaw7.AlikeDeltasMatchSpec', WHERE WHAT IT READS IS OF BULK AT MOST 1048576: true; the input reads as it did. -/
def alikeDeltasMatchSpecUptoRow : OpenClaim := { program := "ytofahmdjhpbecaa", sum := "d59407e7b8e87451e937ff47901e06572dafa5f4efc5bb7fc16e917af20e29bc", func := "ephemera/ephemeralaw7.AlikeDeltasMatchSpec", spec := "alikeDeltasMatchSpec", apart := false, narrowed := true }
def AlikeDeltasMatchSpecUptoSaid : Prop := alikeDeltasMatchSpecUptoRow.holds Try.pinned (OpenSpec.upto alikeDeltasMatchSpecSpec)

/-- 'ephemeralaw7.AlikeFingerprintsMatchSpec', WHERE WHAT IT READS IS OF BULK AT MOST 1048576: true; the input reads as it did. -/
def alikeFingerprintsMatchSpecUptoRow : OpenClaim := { program := "ytofahmdjhpbecaa", sum := "d59407e7b8e87451e937ff47901e06572dafa5f4efc5bb7fc16e917af20e29bc", func := "ephemera/ephemeralaw7.AlikeFingerprintsMatchSpec", spec := "alikeFingerprintsMatchSpec", apart := false, narrowed := true }
def AlikeFingerprintsMatchSpecUptoSaid : Prop := alikeFingerprintsMatchSpecUptoRow.holds Try.pinned (OpenSpec.upto alikeFingerprintsMatchSpecSpec)

/-- 'ephemeralaw7.AlikeChangesMatchSpec', WHERE WHAT IT READS IS OF BULK AT MOST 1048576: true; the input reads as it did. -/
def alikeChangesMatchSpecUptoRow : OpenClaim := { program := "ytofahmdjhpbecaa", sum := "d59407e7b8e87451e937ff47901e06572dafa5f4efc5bb7fc16e917af20e29bc", func := "ephemera/ephemeralaw7.AlikeChangesMatchSpec", spec := "alikeChangesMatchSpec", inPlace := ["internal/bytealg.IndexByteString"], apart := false, narrowed := true }
def AlikeChangesMatchSpecUptoSaid : Prop := alikeChangesMatchSpecUptoRow.holds Try.pinned (OpenSpec.upto alikeChangesMatchSpecSpec)

/-- 'ephemeralaw7.AlikeDeltaBytesMatchSpec', WHERE WHAT IT READS IS OF BULK AT MOST 1048576: true; the input reads as it did. -/
def alikeDeltaBytesMatchSpecUptoRow : OpenClaim := { program := "ytofahmdjhpbecaa", sum := "d59407e7b8e87451e937ff47901e06572dafa5f4efc5bb7fc16e917af20e29bc", func := "ephemera/ephemeralaw7.AlikeDeltaBytesMatchSpec", spec := "alikeDeltaBytesMatchSpec", apart := false, narrowed := true }
def AlikeDeltaBytesMatchSpecUptoSaid : Prop := alikeDeltaBytesMatchSpecUptoRow.holds Try.pinned (OpenSpec.upto alikeDeltaBytesMatchSpecSpec)

/-- 'ephemeralaw7.AlikeVersionsComeBack', WHERE WHAT IT READS IS OF BULK AT MOST 1048576: true; the input reads as it did. -/
def alikeVersionsComeBackUptoRow : OpenClaim := { program := "ytofahmdjhpbecaa", sum := "d59407e7b8e87451e937ff47901e06572dafa5f4efc5bb7fc16e917af20e29bc", func := "ephemera/ephemeralaw7.AlikeVersionsComeBack", spec := "alikeVersionsComeBack", apart := false, narrowed := true }
def AlikeVersionsComeBackUptoSaid : Prop := alikeVersionsComeBackUptoRow.holds Try.pinned (OpenSpec.upto alikeVersionsComeBackSpec)

/-- 'ephemeralaw7.AlikeDeltasComeBack', WHERE WHAT IT READS IS OF BULK AT MOST 1048576: true; the input reads as it did. -/
def alikeDeltasComeBackUptoRow : OpenClaim := { program := "ytofahmdjhpbecaa", sum := "d59407e7b8e87451e937ff47901e06572dafa5f4efc5bb7fc16e917af20e29bc", func := "ephemera/ephemeralaw7.AlikeDeltasComeBack", spec := "alikeDeltasComeBack", apart := false, narrowed := true }
def AlikeDeltasComeBackUptoSaid : Prop := alikeDeltasComeBackUptoRow.holds Try.pinned (OpenSpec.upto alikeDeltasComeBackSpec)

/-- 'ephemeralaw7.AlikeVersionsMatchSpec', WHERE WHAT IT READS IS OF BULK AT MOST 1048576: true; the input reads as it did. -/
def alikeVersionsMatchSpecUptoRow : OpenClaim := { program := "ytofahmdjhpbecaa", sum := "d59407e7b8e87451e937ff47901e06572dafa5f4efc5bb7fc16e917af20e29bc", func := "ephemera/ephemeralaw7.AlikeVersionsMatchSpec", spec := "alikeVersionsMatchSpec", apart := false, narrowed := true }
def AlikeVersionsMatchSpecUptoSaid : Prop := alikeVersionsMatchSpecUptoRow.holds Try.pinned (OpenSpec.upto alikeVersionsMatchSpecSpec)

/-- 'ephemeralaw7.AlikeAppliesMatchSpec', WHERE WHAT IT READS IS OF BULK AT MOST 1048576: true; the input reads as it did. -/
def alikeAppliesMatchSpecUptoRow : OpenClaim := { program := "ytofahmdjhpbecaa", sum := "d59407e7b8e87451e937ff47901e06572dafa5f4efc5bb7fc16e917af20e29bc", func := "ephemera/ephemeralaw7.AlikeAppliesMatchSpec", spec := "alikeAppliesMatchSpec", inPlace := ["internal/bytealg.IndexByteString", "internal/abi.NoEscape", "internal/bytealg.MakeNoZero"], unfollowed := true, recurses := true, apart := false, narrowed := true }
def AlikeAppliesMatchSpecUptoSaid : Prop := alikeAppliesMatchSpecUptoRow.holds Try.pinned (OpenSpec.upto alikeAppliesMatchSpecSpec)

/-- 'ephemeralaw7.AlikeChangesLeadThere', WHERE WHAT IT READS IS OF BULK AT MOST 1048576: true; the input reads as it did. -/
def alikeChangesLeadThereUptoRow : OpenClaim := { program := "ytofahmdjhpbecaa", sum := "d59407e7b8e87451e937ff47901e06572dafa5f4efc5bb7fc16e917af20e29bc", func := "ephemera/ephemeralaw7.AlikeChangesLeadThere", spec := "alikeChangesLeadThere", inPlace := ["internal/bytealg.IndexByteString", "internal/abi.NoEscape", "internal/bytealg.MakeNoZero"], unfollowed := true, recurses := true, apart := false, narrowed := true }
def AlikeChangesLeadThereUptoSaid : Prop := alikeChangesLeadThereUptoRow.holds Try.pinned (OpenSpec.upto alikeChangesLeadThereSpec)

end Rows
end Go.Proofs.Ytofahmdjhpbecaa
