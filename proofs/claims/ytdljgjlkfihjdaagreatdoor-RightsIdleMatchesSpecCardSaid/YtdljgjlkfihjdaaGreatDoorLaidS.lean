/-
  The witness of this seat's rows: the world in which the listed variables lie (tables, two sentinels).
-/
import Derived.Test.YtdljgjlkfihjdaaGreatDoorRows
import Derived.Lay
import Derived.Lib.LaidIn
import Derived.LaidMore
import Derived.ProofKit
import Derived.OpenShut
import Derived.Stop.Joined
import Derived.SizedLaws
import Derived.Deep.DeepWitnessRowRef
namespace Go.Proofs.YtdljgjlkfihjdaaGreatDoor
open Go.ChangeShapes Go.WideShapes Go.ChangeAt Go.RowKit

noncomputable def putTabs (w : World) : World := w.layVars Tryz.prog Rows.rightsIdleMatchesSpecRow.laid
theorem own : ownKnob Tryz.prog.godebug = none := by kernel_rfl
theorem laid : laidOutB Tryz.prog = true := by kernel_rfl
theorem laid_met (os : Os) (args : Array Value) : laidMetH Tryz.prog Rows.rightsIdleMatchesSpecRow.laid ((putTabs (World.holding Tryz.prog os ⟨#[], #[], []⟩)).forCall (fun _ _ => 0) ⟨#[], args, []⟩).memory := by
  rw [MakeChecks.laidMetH_plain _ _ _ (by kernel_rfl)]
  exact laidMet_laidAll (P := Tryz.prog) (os := os) (laid := Rows.rightsIdleMatchesSpecRow.laid) args (by kernel_rfl) (by kernel_rfl)
theorem shaped (os : Os) (args : Array Value) : ((putTabs (World.holding Tryz.prog os ⟨#[], #[], []⟩)).forCall (fun _ _ => 0) ⟨#[], args, []⟩).Shaped Tryz.prog :=
  World.shaped_of_ZipB (by kernel_rfl) (by kernel_rfl)
end Go.Proofs.YtdljgjlkfihjdaaGreatDoor
