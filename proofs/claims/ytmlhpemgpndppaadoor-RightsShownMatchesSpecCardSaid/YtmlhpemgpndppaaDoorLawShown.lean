/-
  RightsShownMatchesSpec: for every input the law returns true, and each argument reads behind the call as it read before. No condition.
-/
import Derived.Test.YtmlhpemgpndppaaDoorLawShownO
import Derived.Test.YtmlhpemgpndppaaDoorCards
import Derived.Test.YtmlhpemgpndppaaDoorTie
import Derived.SevenTiedAt
namespace Go.Proofs.YtmlhpemgpndppaaDoor.rightsShownMatchesSpec
open Go.ChangeShapes Go.WideShapes Go.ChangeAt Go.RowKit Go.Proofs.YtmlhpemgpndppaaDoor
set_option linter.unusedVariables false

set_option maxHeartbeats 8000000 in
theorem cardOver : Rows.RightsShownMatchesSpecCardSaid :=
  Claim7.holds_tied_plain_at .later [] [.data, .pinned] true _ false over (fun _ h => by cases h) (by as_aux_lemma => kernel_rfl) (fun _ h => by cases h) rightsShownMatchesSpec_row_tie rfl ⟨rfl, rfl⟩ (by as_aux_lemma => kernel_rfl) rfl
    (fun f fn hf hfn => by
      obtain rfl : f = 7 := Option.some.inj ((show Tryd.prog.funcNamed Rows.rightsShownMatchesSpecRow.func = some 7 by as_aux_lemma => kernel_rfl).symm.trans hf) |>.symm
      obtain rfl : fn = Tryd.f7 := (Option.some.inj (Tryd.func7.symm.trans hfn)).symm
      exact ⟨by as_aux_lemma => kernel_rfl, fun j t ht => by
        rw [Tryd.params7] at ht
        have hm : t ∈ [22, 23, 45, 3] := by simpa using Array.mem_of_getElem? ht
        have hall : ([22, 23, 45, 3].all fun u => !Tryd.prog.wantsStandIn u) = true := by as_aux_lemma => kernel_rfl
        exact (show Tryd.prog.wantsStandIn t = false by simpa using List.all_eq_true.1 hall t hm)⟩)
    (by as_aux_lemma => kernel_rfl)

end Go.Proofs.YtmlhpemgpndppaaDoor.rightsShownMatchesSpec
namespace Go.Proofs.YtmlhpemgpndppaaDoor
/-- The statement. -/
theorem rightsShownMatchesSpec_holds : Rows.RightsShownMatchesSpecCardSaid := rightsShownMatchesSpec.cardOver
#print axioms rightsShownMatchesSpec_holds
end Go.Proofs.YtmlhpemgpndppaaDoor
