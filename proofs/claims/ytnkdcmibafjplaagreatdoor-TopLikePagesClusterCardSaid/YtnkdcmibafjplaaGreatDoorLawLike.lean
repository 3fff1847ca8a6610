/-
  TopLikePagesCluster: for every input the law returns true, and each argument reads behind the call as it read before. No condition.
-/
import Derived.Test.YtnkdcmibafjplaaGreatDoorLawLikeO
import Derived.Test.YtnkdcmibafjplaaGreatDoorCards
import Derived.Test.YtnkdcmibafjplaaGreatDoorTie
import Derived.SevenTiedAt
namespace Go.Proofs.YtnkdcmibafjplaaGreatDoor.topLikePagesCluster
open Go.ChangeShapes Go.WideShapes Go.ChangeAt Go.RowKit Go.Proofs.YtnkdcmibafjplaaGreatDoor
set_option linter.unusedVariables false

set_option maxHeartbeats 8000000 in
theorem cardOver : Rows.TopLikePagesClusterCardSaid :=
  Claim7.holds_tied_plain_at .later [] [.data, .pinned] true _ false over (fun _ h => by cases h) (by as_aux_lemma => kernel_rfl) (fun _ h => by cases h) topLikePagesCluster_row_tie rfl ⟨rfl, rfl⟩ (by as_aux_lemma => kernel_rfl) rfl
    (fun f fn hf hfn => by
      obtain rfl : f = 3 := Option.some.inj ((show Tryz.prog.funcNamed Rows.topLikePagesClusterRow.func = some 3 by as_aux_lemma => kernel_rfl).symm.trans hf) |>.symm
      obtain rfl : fn = Tryz.f3 := (Option.some.inj (Tryz.func3.symm.trans hfn)).symm
      exact ⟨by as_aux_lemma => kernel_rfl, fun j t ht => by
        rw [Tryz.params3] at ht
        have hm : t ∈ [22, 3, 24] := by simpa using Array.mem_of_getElem? ht
        have hall : ([22, 3, 24].all fun u => !Tryz.prog.wantsStandIn u) = true := by as_aux_lemma => kernel_rfl
        exact (show Tryz.prog.wantsStandIn t = false by simpa using List.all_eq_true.1 hall t hm)⟩)
    (by as_aux_lemma => kernel_rfl)

end Go.Proofs.YtnkdcmibafjplaaGreatDoor.topLikePagesCluster
namespace Go.Proofs.YtnkdcmibafjplaaGreatDoor
/-- The statement. -/
theorem topLikePagesCluster_holds : Rows.TopLikePagesClusterCardSaid := topLikePagesCluster.cardOver
#print axioms topLikePagesCluster_holds
end Go.Proofs.YtnkdcmibafjplaaGreatDoor
