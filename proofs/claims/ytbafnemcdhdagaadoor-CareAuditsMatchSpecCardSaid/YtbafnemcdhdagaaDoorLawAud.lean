/-
  CareAuditsMatchSpec: for every input the law returns true, and each argument reads behind the call as it read before. No condition.
-/
import Derived.Test.YtbafnemcdhdagaaDoorLawAudO
import Derived.Test.YtbafnemcdhdagaaDoorCards
import Derived.Test.YtbafnemcdhdagaaDoorTie
import Derived.SevenTiedAt
namespace Go.Proofs.YtbafnemcdhdagaaDoor.careAuditsMatchSpec
open Go.ChangeShapes Go.WideShapes Go.ChangeAt Go.RowKit Go.Proofs.YtbafnemcdhdagaaDoor
set_option linter.unusedVariables false

set_option maxHeartbeats 8000000 in
theorem cardOver : Rows.CareAuditsMatchSpecCardSaid :=
  Claim7.holds_tied_plain_at .later [] [.data, .pinned] true _ false over (fun _ h => by cases h) (by as_aux_lemma => kernel_rfl) (fun _ h => by cases h) careAuditsMatchSpec_row_tie rfl ⟨rfl, rfl⟩ (by as_aux_lemma => kernel_rfl) rfl
    (fun f fn hf hfn => by
      obtain rfl : f = 5 := Option.some.inj ((show Tryd.prog.funcNamed Rows.careAuditsMatchSpecRow.func = some 5 by as_aux_lemma => kernel_rfl).symm.trans hf) |>.symm
      obtain rfl : fn = Tryd.f5 := (Option.some.inj (Tryd.func5.symm.trans hfn)).symm
      exact ⟨by as_aux_lemma => kernel_rfl, fun j t ht => by
        rw [Tryd.params5] at ht
        have hm : t ∈ [49, 3, 3, 3] := by simpa using Array.mem_of_getElem? ht
        have hall : ([49, 3, 3, 3].all fun u => !Tryd.prog.wantsStandIn u) = true := by as_aux_lemma => kernel_rfl
        exact (show Tryd.prog.wantsStandIn t = false by simpa using List.all_eq_true.1 hall t hm)⟩)
    (by as_aux_lemma => kernel_rfl)

end Go.Proofs.YtbafnemcdhdagaaDoor.careAuditsMatchSpec
namespace Go.Proofs.YtbafnemcdhdagaaDoor
/-- The statement. -/
theorem careAuditsMatchSpec_holds : Rows.CareAuditsMatchSpecCardSaid := careAuditsMatchSpec.cardOver
#print axioms careAuditsMatchSpec_holds
end Go.Proofs.YtbafnemcdhdagaaDoor
