/-
  RightsForNobodyHide: for every input the law returns true, and each argument reads behind the call as it read before. No condition.
-/
import Derived.Test.YtmlhpemgpndppaaDoorLawHideO
import Derived.Test.YtmlhpemgpndppaaDoorCards
import Derived.Test.YtmlhpemgpndppaaDoorTie
import Derived.SevenTiedAt
namespace Go.Proofs.YtmlhpemgpndppaaDoor.rightsForNobodyHide
open Go.ChangeShapes Go.WideShapes Go.ChangeAt Go.RowKit Go.Proofs.YtmlhpemgpndppaaDoor
set_option linter.unusedVariables false

set_option maxHeartbeats 8000000 in
theorem cardOver : Rows.RightsForNobodyHideCardSaid :=
  Claim7.holds_tied_plain_at .later [] [.data, .pinned] true _ false over (fun _ h => by cases h) (by as_aux_lemma => kernel_rfl) (fun _ h => by cases h) rightsForNobodyHide_row_tie rfl ⟨rfl, rfl⟩ (by as_aux_lemma => kernel_rfl) rfl
    (fun f fn hf hfn => by
      obtain rfl : f = 4 := Option.some.inj ((show Tryd.prog.funcNamed Rows.rightsForNobodyHideRow.func = some 4 by as_aux_lemma => kernel_rfl).symm.trans hf) |>.symm
      obtain rfl : fn = Tryd.f4 := (Option.some.inj (Tryd.func4.symm.trans hfn)).symm
      exact ⟨by as_aux_lemma => kernel_rfl, fun j t ht => by
        rw [Tryd.params4] at ht
        have hm : t ∈ [22, 23, 25, 27, 3] := by simpa using Array.mem_of_getElem? ht
        have hall : ([22, 23, 25, 27, 3].all fun u => !Tryd.prog.wantsStandIn u) = true := by as_aux_lemma => kernel_rfl
        exact (show Tryd.prog.wantsStandIn t = false by simpa using List.all_eq_true.1 hall t hm)⟩)
    (by as_aux_lemma => kernel_rfl)

end Go.Proofs.YtmlhpemgpndppaaDoor.rightsForNobodyHide
namespace Go.Proofs.YtmlhpemgpndppaaDoor
/-- The statement. -/
theorem rightsForNobodyHide_holds : Rows.RightsForNobodyHideCardSaid := rightsForNobodyHide.cardOver
#print axioms rightsForNobodyHide_holds
end Go.Proofs.YtmlhpemgpndppaaDoor
