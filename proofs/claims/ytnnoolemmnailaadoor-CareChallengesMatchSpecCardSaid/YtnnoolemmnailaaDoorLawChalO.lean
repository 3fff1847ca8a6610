/-
  The row of CareChallengesMatchSpec: its closed facts, its proof.
-/
import Derived.Test.YtnnoolemmnailaaDoorLawChalL
namespace Go.Proofs.YtnnoolemmnailaaDoor.careChallengesMatchSpec
open Go.ChangeShapes Go.WideShapes Go.ChangeAt Go.RowKit Go.Proofs.YtnnoolemmnailaaDoor
set_option linter.unusedVariables false

theorem band {a b : Bool} (h1 : a = true) (h2 : b = true) : (a && b) = true := by rw [h1, h2]; rfl
set_option maxHeartbeats 8000000 in
theorem closedF : joinedFacts Tryd.pinned.checked.prog 6 Tryd.f6 Rows.careChallengesMatchSpecSpec Rows.careChallengesMatchSpecRow = true := by
  unfold joinedFacts
  repeat' (with_reducible refine band ?_ ?_)
  all_goals as_aux_lemma => kernel_rfl
theorem over : Rows.careChallengesMatchSpecRow.holds Tryd.pinned (OpenSpec.ofChange Rows.careChallengesMatchSpecSpec) :=
  OpenClaim.holds_of_wide 6 Tryd.f6 rfl rfl rfl rfl rfl rfl rfl ⟨rfl, rfl, rfl, rfl, rfl⟩ rfl rfl rfl rfl rfl (by as_aux_lemma => kernel_rfl) Tryd.func6 closedF
    (of_decide_eq_true (by as_aux_lemma => kernel_rfl)) (by unfold Func.isWrapper; first | (rw [if_pos (by decide +kernel)]; kernel_rfl) | (rw [if_neg (by decide +kernel)]; exact ⟨rfl, rfl⟩))
    (fun os started H enc _ => lifted os started H enc)

end Go.Proofs.YtnnoolemmnailaaDoor.careChallengesMatchSpec
