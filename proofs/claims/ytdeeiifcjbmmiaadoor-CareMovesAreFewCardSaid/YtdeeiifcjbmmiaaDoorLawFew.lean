/-
  CareMovesAreFew: for every input the law returns true, and each argument reads behind the call as it read before. No condition.
-/
import Derived.Test.YtdeeiifcjbmmiaaDoorLawFewO
import Derived.Test.YtdeeiifcjbmmiaaDoorCards
import Derived.Test.YtdeeiifcjbmmiaaDoorTie
import Derived.SevenTiedAt
namespace Go.Proofs.YtdeeiifcjbmmiaaDoor.careMovesAreFew
open Go.ChangeShapes Go.WideShapes Go.ChangeAt Go.RowKit Go.Proofs.YtdeeiifcjbmmiaaDoor
set_option linter.unusedVariables false

set_option maxHeartbeats 8000000 in
theorem cardOver : Rows.CareMovesAreFewCardSaid :=
  Claim7.holds_tied_plain_at .later [] [.data, .pinned] true _ false over (fun _ h => by cases h) (by as_aux_lemma => kernel_rfl) (fun _ h => by cases h) careMovesAreFew_row_tie rfl ⟨rfl, rfl⟩ (by as_aux_lemma => kernel_rfl) rfl
    (fun f fn hf hfn => by
      obtain rfl : f = 3 := Option.some.inj ((show Tryd.prog.funcNamed Rows.careMovesAreFewRow.func = some 3 by as_aux_lemma => kernel_rfl).symm.trans hf) |>.symm
      obtain rfl : fn = Tryd.f3 := (Option.some.inj (Tryd.func3.symm.trans hfn)).symm
      exact ⟨by as_aux_lemma => kernel_rfl, fun j t ht => by
        rw [Tryd.params3] at ht
        have hm : t ∈ [22, 3, 23, 3] := by simpa using Array.mem_of_getElem? ht
        have hall : ([22, 3, 23, 3].all fun u => !Tryd.prog.wantsStandIn u) = true := by as_aux_lemma => kernel_rfl
        exact (show Tryd.prog.wantsStandIn t = false by simpa using List.all_eq_true.1 hall t hm)⟩)
    (by as_aux_lemma => kernel_rfl)

end Go.Proofs.YtdeeiifcjbmmiaaDoor.careMovesAreFew
namespace Go.Proofs.YtdeeiifcjbmmiaaDoor
/-- The statement. -/
theorem careMovesAreFew_holds : Rows.CareMovesAreFewCardSaid := careMovesAreFew.cardOver
#print axioms careMovesAreFew_holds
end Go.Proofs.YtdeeiifcjbmmiaaDoor
