/-
  The row of CareManifestsMatchSpec: its closed facts, its proof.
-/
import Derived.Test.YtgfacedfndcgdaaGreatDoorLawMtL
namespace Go.Proofs.YtgfacedfndcgdaaGreatDoor.careManifestsMatchSpec
open Go.ChangeShapes Go.WideShapes Go.ChangeAt Go.RowKit Go.Proofs.YtgfacedfndcgdaaGreatDoor
set_option linter.unusedVariables false

theorem band {a b : Bool} (h1 : a = true) (h2 : b = true) : (a && b) = true := by rw [h1, h2]; rfl
set_option maxHeartbeats 8000000 in
theorem closedF : joinedFacts Tryz.pinned.checked.prog 3 Tryz.f3 (Rows.OpenSpec.upto Rows.careManifestsMatchSpecSpec).bare Rows.careManifestsMatchSpecUptoRow = true := by
  unfold joinedFacts
  repeat' (with_reducible refine band ?_ ?_)
  all_goals as_aux_lemma => kernel_rfl
theorem over : Rows.careManifestsMatchSpecUptoRow.holds Tryz.pinned (Rows.OpenSpec.upto Rows.careManifestsMatchSpecSpec) :=
  OpenClaim.holds_of_cond 3 Tryz.f3 rfl rfl rfl rfl rfl rfl rfl ⟨rfl, rfl, rfl, rfl, rfl⟩ rfl rfl rfl rfl rfl (by as_aux_lemma => kernel_rfl) Tryz.func3 closedF
    (of_decide_eq_true (by as_aux_lemma => kernel_rfl)) (by unfold Func.isWrapper; first | (rw [if_pos (by decide +kernel)]; kernel_rfl) | (rw [if_neg (by decide +kernel)]; exact ⟨rfl, rfl⟩))
    (fun os started H enc _ F => by rw [OpenClaim.pre_eq_preRow]; exact lifted os started H enc F)

end Go.Proofs.YtgfacedfndcgdaaGreatDoor.careManifestsMatchSpec
