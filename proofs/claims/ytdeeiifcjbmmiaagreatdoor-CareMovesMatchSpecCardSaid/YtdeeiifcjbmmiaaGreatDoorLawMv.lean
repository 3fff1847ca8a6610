/-
  CareMovesMatchSpec: for every input the law returns true, and each argument reads behind the call as it read before. No condition.
-/
import Derived.Test.YtdeeiifcjbmmiaaGreatDoorLawMvO
import Derived.Test.YtdeeiifcjbmmiaaGreatDoorCards
import Derived.Test.YtdeeiifcjbmmiaaGreatDoorTie
import Derived.SevenTiedAt
namespace Go.Proofs.YtdeeiifcjbmmiaaGreatDoor.careMovesMatchSpec
open Go.ChangeShapes Go.WideShapes Go.ChangeAt Go.RowKit Go.Proofs.YtdeeiifcjbmmiaaGreatDoor
set_option linter.unusedVariables false

set_option maxHeartbeats 8000000 in
theorem cardOver : Rows.CareMovesMatchSpecCardSaid :=
  Claim7.holds_tied_plain_at .later [] [.data, .data, .data, .data, .sentinel, .sentinel, .pinned] true _ true over (fun _ h => by cases h) (by as_aux_lemma => kernel_rfl) (fun _ h => by cases h) careMovesMatchSpec_row_tie rfl ⟨rfl, rfl⟩ (by as_aux_lemma => kernel_rfl) rfl
    (fun f fn hf hfn => by
      obtain rfl : f = 4 := Option.some.inj ((show Tryz.prog.funcNamed Rows.careMovesMatchSpecRow.func = some 4 by as_aux_lemma => kernel_rfl).symm.trans hf) |>.symm
      obtain rfl : fn = Tryz.f4 := (Option.some.inj (Tryz.func4.symm.trans hfn)).symm
      exact ⟨by as_aux_lemma => kernel_rfl, fun j t ht => by
        rw [Tryz.params4] at ht
        have hm : t ∈ [22, 22, 23, 3] := by simpa using Array.mem_of_getElem? ht
        have hall : ([22, 22, 23, 3].all fun u => !Tryz.prog.wantsStandIn u) = true := by as_aux_lemma => kernel_rfl
        exact (show Tryz.prog.wantsStandIn t = false by simpa using List.all_eq_true.1 hall t hm)⟩)
    (by as_aux_lemma => kernel_rfl)

end Go.Proofs.YtdeeiifcjbmmiaaGreatDoor.careMovesMatchSpec
namespace Go.Proofs.YtdeeiifcjbmmiaaGreatDoor
/-- The statement. -/
theorem careMovesMatchSpec_holds : Rows.CareMovesMatchSpecCardSaid := careMovesMatchSpec.cardOver
#print axioms careMovesMatchSpec_holds
end Go.Proofs.YtdeeiifcjbmmiaaGreatDoor
