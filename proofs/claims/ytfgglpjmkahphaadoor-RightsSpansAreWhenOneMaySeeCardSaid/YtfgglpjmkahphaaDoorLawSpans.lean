/-
  RightsSpansAreWhenOneMaySee: for every input the law returns true, and each argument reads behind the call as it read before. No condition.
-/
import Derived.Test.YtfgglpjmkahphaaDoorLawSpansO
import Derived.Test.YtfgglpjmkahphaaDoorCards
import Derived.Test.YtfgglpjmkahphaaDoorTie
import Derived.SevenTiedAt
namespace Go.Proofs.YtfgglpjmkahphaaDoor.rightsSpansAreWhenOneMaySee
open Go.ChangeShapes Go.WideShapes Go.ChangeAt Go.RowKit Go.Proofs.YtfgglpjmkahphaaDoor
set_option linter.unusedVariables false

set_option maxHeartbeats 8000000 in
theorem cardOver : Rows.RightsSpansAreWhenOneMaySeeCardSaid :=
  Claim7.holds_tied_plain_at .later [] [.data, .pinned] true _ false over (fun _ h => by cases h) (by as_aux_lemma => kernel_rfl) (fun _ h => by cases h) rightsSpansAreWhenOneMaySee_row_tie rfl ⟨rfl, rfl⟩ (by as_aux_lemma => kernel_rfl) rfl
    (fun f fn hf hfn => by
      obtain rfl : f = 5 := Option.some.inj ((show Tryd.prog.funcNamed Rows.rightsSpansAreWhenOneMaySeeRow.func = some 5 by as_aux_lemma => kernel_rfl).symm.trans hf) |>.symm
      obtain rfl : fn = Tryd.f5 := (Option.some.inj (Tryd.func5.symm.trans hfn)).symm
      exact ⟨by as_aux_lemma => kernel_rfl, fun j t ht => by
        rw [Tryd.params5] at ht
        have hm : t ∈ [36, 27, 38, 40, 3] := by simpa using Array.mem_of_getElem? ht
        have hall : ([36, 27, 38, 40, 3].all fun u => !Tryd.prog.wantsStandIn u) = true := by as_aux_lemma => kernel_rfl
        exact (show Tryd.prog.wantsStandIn t = false by simpa using List.all_eq_true.1 hall t hm)⟩)
    (by as_aux_lemma => kernel_rfl)

end Go.Proofs.YtfgglpjmkahphaaDoor.rightsSpansAreWhenOneMaySee
namespace Go.Proofs.YtfgglpjmkahphaaDoor
/-- The statement. -/
theorem rightsSpansAreWhenOneMaySee_holds : Rows.RightsSpansAreWhenOneMaySeeCardSaid := rightsSpansAreWhenOneMaySee.cardOver
#print axioms rightsSpansAreWhenOneMaySee_holds
end Go.Proofs.YtfgglpjmkahphaaDoor
