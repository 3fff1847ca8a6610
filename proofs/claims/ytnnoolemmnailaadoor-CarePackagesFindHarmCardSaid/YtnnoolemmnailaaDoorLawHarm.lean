/-
  CarePackagesFindHarm: for every input the law returns true, and each argument reads behind the call as it read before. No condition.
-/
import Derived.Test.YtnnoolemmnailaaDoorLawHarmO
import Derived.Test.YtnnoolemmnailaaDoorCards
import Derived.Test.YtnnoolemmnailaaDoorTie
import Derived.SevenTiedAt
namespace Go.Proofs.YtnnoolemmnailaaDoor.carePackagesFindHarm
open Go.ChangeShapes Go.WideShapes Go.ChangeAt Go.RowKit Go.Proofs.YtnnoolemmnailaaDoor
set_option linter.unusedVariables false

set_option maxHeartbeats 8000000 in
theorem cardOver : Rows.CarePackagesFindHarmCardSaid :=
  Claim7.holds_tied_plain_at .later [] [.data, .pinned] true _ false over (fun _ h => by cases h) (by as_aux_lemma => kernel_rfl) (fun _ h => by cases h) carePackagesFindHarm_row_tie rfl ⟨rfl, rfl⟩ (by as_aux_lemma => kernel_rfl) rfl
    (fun f fn hf hfn => by
      obtain rfl : f = 13 := Option.some.inj ((show Tryd.prog.funcNamed Rows.carePackagesFindHarmRow.func = some 13 by as_aux_lemma => kernel_rfl).symm.trans hf) |>.symm
      obtain rfl : fn = Tryd.f13 := (Option.some.inj (Tryd.func13.symm.trans hfn)).symm
      exact ⟨by as_aux_lemma => kernel_rfl, fun j t ht => by
        rw [Tryd.params13] at ht
        have hm : t ∈ [9, 94, 3, 3] := by simpa using Array.mem_of_getElem? ht
        have hall : ([9, 94, 3, 3].all fun u => !Tryd.prog.wantsStandIn u) = true := by as_aux_lemma => kernel_rfl
        exact (show Tryd.prog.wantsStandIn t = false by simpa using List.all_eq_true.1 hall t hm)⟩)
    (by as_aux_lemma => kernel_rfl)

end Go.Proofs.YtnnoolemmnailaaDoor.carePackagesFindHarm
namespace Go.Proofs.YtnnoolemmnailaaDoor
/-- The statement. -/
theorem carePackagesFindHarm_holds : Rows.CarePackagesFindHarmCardSaid := carePackagesFindHarm.cardOver
#print axioms carePackagesFindHarm_holds
end Go.Proofs.YtnnoolemmnailaaDoor
