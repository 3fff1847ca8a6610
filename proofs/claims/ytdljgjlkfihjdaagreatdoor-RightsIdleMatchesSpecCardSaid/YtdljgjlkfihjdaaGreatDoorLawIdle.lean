/-
  RightsIdleMatchesSpec: for every input the law returns true, and each argument reads behind the call as it read before. No condition.
-/
import Derived.Test.YtdljgjlkfihjdaaGreatDoorLawIdleO
import Derived.Test.YtdljgjlkfihjdaaGreatDoorCards
import Derived.Test.YtdljgjlkfihjdaaGreatDoorTie
import Derived.SevenTiedAt
namespace Go.Proofs.YtdljgjlkfihjdaaGreatDoor.rightsIdleMatchesSpec
open Go.ChangeShapes Go.WideShapes Go.ChangeAt Go.RowKit Go.Proofs.YtdljgjlkfihjdaaGreatDoor
set_option linter.unusedVariables false

set_option maxHeartbeats 8000000 in
theorem cardOver : Rows.RightsIdleMatchesSpecCardSaid :=
  Claim7.holds_tied_plain_at .later [] [.data, .pinned] true _ false over (fun _ h => by cases h) (by as_aux_lemma => kernel_rfl) (fun _ h => by cases h) rightsIdleMatchesSpec_row_tie rfl ⟨rfl, rfl⟩ (by as_aux_lemma => kernel_rfl) rfl
    (fun f fn hf hfn => by
      obtain rfl : f = 3 := Option.some.inj ((show Tryz.prog.funcNamed Rows.rightsIdleMatchesSpecRow.func = some 3 by as_aux_lemma => kernel_rfl).symm.trans hf) |>.symm
      obtain rfl : fn = Tryz.f3 := (Option.some.inj (Tryz.func3.symm.trans hfn)).symm
      exact ⟨by as_aux_lemma => kernel_rfl, fun j t ht => by
        rw [Tryz.params3] at ht
        have hm : t ∈ [22, 23, 25, 3] := by simpa using Array.mem_of_getElem? ht
        have hall : ([22, 23, 25, 3].all fun u => !Tryz.prog.wantsStandIn u) = true := by as_aux_lemma => kernel_rfl
        exact (show Tryz.prog.wantsStandIn t = false by simpa using List.all_eq_true.1 hall t hm)⟩)
    (by as_aux_lemma => kernel_rfl)

end Go.Proofs.YtdljgjlkfihjdaaGreatDoor.rightsIdleMatchesSpec
namespace Go.Proofs.YtdljgjlkfihjdaaGreatDoor
/-- The statement. -/
theorem rightsIdleMatchesSpec_holds : Rows.RightsIdleMatchesSpecCardSaid := rightsIdleMatchesSpec.cardOver
#print axioms rightsIdleMatchesSpec_holds
end Go.Proofs.YtdljgjlkfihjdaaGreatDoor
