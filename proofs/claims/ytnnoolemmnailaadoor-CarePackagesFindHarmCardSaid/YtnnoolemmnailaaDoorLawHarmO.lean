/-
  The row of CarePackagesFindHarm: its closed facts, its proof.
-/
import Derived.Test.YtnnoolemmnailaaDoorLawHarmL
namespace Go.Proofs.YtnnoolemmnailaaDoor.carePackagesFindHarm
open Go.ChangeShapes Go.WideShapes Go.ChangeAt Go.RowKit Go.Proofs.YtnnoolemmnailaaDoor
set_option linter.unusedVariables false

theorem band {a b : Bool} (h1 : a = true) (h2 : b = true) : (a && b) = true := by rw [h1, h2]; rfl
set_option maxHeartbeats 8000000 in
theorem closedF : joinedFacts Tryd.pinned.checked.prog 13 Tryd.f13 Rows.carePackagesFindHarmSpec Rows.carePackagesFindHarmRow = true := by
  unfold joinedFacts
  repeat' (with_reducible refine band ?_ ?_)
  all_goals as_aux_lemma => kernel_rfl
theorem over : Rows.carePackagesFindHarmRow.holds Tryd.pinned (OpenSpec.ofChange Rows.carePackagesFindHarmSpec) :=
  OpenClaim.holds_of_wide 13 Tryd.f13 rfl rfl rfl rfl rfl rfl rfl ⟨rfl, rfl, rfl, rfl, rfl⟩ rfl rfl rfl rfl rfl (by as_aux_lemma => kernel_rfl) Tryd.func13 closedF
    (of_decide_eq_true (by as_aux_lemma => kernel_rfl)) (by unfold Func.isWrapper; first | (rw [if_pos (by decide +kernel)]; kernel_rfl) | (rw [if_neg (by decide +kernel)]; exact ⟨rfl, rfl⟩))
    (fun os started H enc _ => lifted os started H enc)

end Go.Proofs.YtnnoolemmnailaaDoor.carePackagesFindHarm
