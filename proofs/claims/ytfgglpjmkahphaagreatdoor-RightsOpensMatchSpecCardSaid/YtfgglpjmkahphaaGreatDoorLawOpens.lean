/-
  RightsOpensMatchSpec: for every input the law returns true, and each argument reads behind the call as it read before. No condition.
-/
import Derived.Test.YtfgglpjmkahphaaGreatDoorLawOpensO
import Derived.Test.YtfgglpjmkahphaaGreatDoorCards
import Derived.Test.YtfgglpjmkahphaaGreatDoorTie
import Derived.SevenTiedAt
namespace Go.Proofs.YtfgglpjmkahphaaGreatDoor.rightsOpensMatchSpec
open Go.ChangeShapes Go.WideShapes Go.ChangeAt Go.RowKit Go.Proofs.YtfgglpjmkahphaaGreatDoor
set_option linter.unusedVariables false

set_option maxHeartbeats 8000000 in
theorem cardOver : Rows.RightsOpensMatchSpecCardSaid :=
  Claim7.holds_tied_plain_at .later [] [.data, .pinned] true _ false over (fun _ h => by cases h) (by as_aux_lemma => kernel_rfl) (fun _ h => by cases h) rightsOpensMatchSpec_row_tie rfl ⟨rfl, rfl⟩ (by as_aux_lemma => kernel_rfl) rfl
    (fun f fn hf hfn => by
      obtain rfl : f = 3 := Option.some.inj ((show Tryz.prog.funcNamed Rows.rightsOpensMatchSpecRow.func = some 3 by as_aux_lemma => kernel_rfl).symm.trans hf) |>.symm
      obtain rfl : fn = Tryz.f3 := (Option.some.inj (Tryz.func3.symm.trans hfn)).symm
      exact ⟨by as_aux_lemma => kernel_rfl, fun j t ht => by
        rw [Tryz.params3] at ht
        have hm : t ∈ [22, 23, 25, 27, 3] := by simpa using Array.mem_of_getElem? ht
        have hall : ([22, 23, 25, 27, 3].all fun u => !Tryz.prog.wantsStandIn u) = true := by as_aux_lemma => kernel_rfl
        exact (show Tryz.prog.wantsStandIn t = false by simpa using List.all_eq_true.1 hall t hm)⟩)
    (by as_aux_lemma => kernel_rfl)

end Go.Proofs.YtfgglpjmkahphaaGreatDoor.rightsOpensMatchSpec
namespace Go.Proofs.YtfgglpjmkahphaaGreatDoor
/-- The statement. -/
theorem rightsOpensMatchSpec_holds : Rows.RightsOpensMatchSpecCardSaid := rightsOpensMatchSpec.cardOver
#print axioms rightsOpensMatchSpec_holds
end Go.Proofs.YtfgglpjmkahphaaGreatDoor
