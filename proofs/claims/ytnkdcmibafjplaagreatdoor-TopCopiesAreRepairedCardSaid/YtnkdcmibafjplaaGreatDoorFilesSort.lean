/-
  Files that are right are sorted by their paths.
-/
import Derived.Test.YtnkdcmibafjplaaGreatDoorProg
import Derived.Test.YtnkdcmibafjplaaGreatDoorWrong
namespace Go.Proofs.YtnkdcmibafjplaaGreatDoor
open Go.RowKit
set_option linter.unusedVariables false
set_option linter.unusedSimpArgs false

theorem files_sorted {F : List FileR} (h : filesFault F = 0) : F.Pairwise (fun a b => Op.bytesLess a.path b.path = true) := by
  refine pairwise_of_next (fun a b : FileR => Op.bytesLess a.path b.path = true) (fun _ _ _ h k => bl_trans h k) fun i hi => ?_
  have h1 := ((files_ok h).2 (i + 1) hi).2.2
  simp only [Nat.add_sub_cancel] at h1
  have h2 : ¬ sle F[i + 1].path F[i].path = true := fun e => h1 ⟨by omega, e⟩
  unfold sle at h2
  rcases scmp_cases F[i].path F[i + 1].path with ⟨_, h, _⟩ | ⟨_, _, _, h⟩ | ⟨_, _, h, _⟩
  · exact h
  · rw [h] at h2; simp at h2
  · rw [h] at h2; simp at h2
end Go.Proofs.YtnkdcmibafjplaaGreatDoor
