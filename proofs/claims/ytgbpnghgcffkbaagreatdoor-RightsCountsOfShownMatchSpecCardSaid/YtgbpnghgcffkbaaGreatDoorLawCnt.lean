/-
  RightsCountsOfShownMatchSpec: for every input the law returns true, and each argument reads behind the call as it read before. No condition.
-/
import Derived.Test.YtgbpnghgcffkbaaGreatDoorLawCntO
import Derived.Test.YtgbpnghgcffkbaaGreatDoorCards
import Derived.Test.YtgbpnghgcffkbaaGreatDoorTie
import Derived.SevenTiedAt
namespace Go.Proofs.YtgbpnghgcffkbaaGreatDoor.rightsCountsOfShownMatchSpec
open Go.ChangeShapes Go.WideShapes Go.ChangeAt Go.RowKit Go.Proofs.YtgbpnghgcffkbaaGreatDoor
set_option linter.unusedVariables false

set_option maxHeartbeats 8000000 in
theorem cardOver : Rows.RightsCountsOfShownMatchSpecCardSaid :=
  Claim7.holds_tied_plain_at .later [] [.data, .pinned] true _ true over (fun _ h => by cases h) (by as_aux_lemma => kernel_rfl) (fun _ h => by cases h) rightsCountsOfShownMatchSpec_row_tie rfl ⟨rfl, rfl⟩ (by as_aux_lemma => kernel_rfl) rfl
    (fun f fn hf hfn => by
      obtain rfl : f = 6 := Option.some.inj ((show Tryz.prog.funcNamed Rows.rightsCountsOfShownMatchSpecRow.func = some 6 by as_aux_lemma => kernel_rfl).symm.trans hf) |>.symm
      obtain rfl : fn = Tryz.f6 := (Option.some.inj (Tryz.func6.symm.trans hfn)).symm
      exact ⟨by as_aux_lemma => kernel_rfl, fun j t ht => by
        rw [Tryz.params6] at ht
        have hm : t ∈ [45, 3, 3, 9, 3, 3, 3] := by simpa using Array.mem_of_getElem? ht
        have hall : ([45, 3, 3, 9, 3, 3, 3].all fun u => !Tryz.prog.wantsStandIn u) = true := by as_aux_lemma => kernel_rfl
        exact (show Tryz.prog.wantsStandIn t = false by simpa using List.all_eq_true.1 hall t hm)⟩)
    (by as_aux_lemma => kernel_rfl)

end Go.Proofs.YtgbpnghgcffkbaaGreatDoor.rightsCountsOfShownMatchSpec
namespace Go.Proofs.YtgbpnghgcffkbaaGreatDoor
/-- The statement. -/
theorem rightsCountsOfShownMatchSpec_holds : Rows.RightsCountsOfShownMatchSpecCardSaid := rightsCountsOfShownMatchSpec.cardOver
#print axioms rightsCountsOfShownMatchSpec_holds
end Go.Proofs.YtgbpnghgcffkbaaGreatDoor
