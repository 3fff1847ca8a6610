/-
  TopCopiesAreRepaired: for every input the law returns true, and each argument reads behind the call as it read before. No condition.
-/
import Derived.Test.YtnkdcmibafjplaaGreatDoorLawRepairedO
import Derived.Test.YtnkdcmibafjplaaGreatDoorCards
import Derived.Test.YtnkdcmibafjplaaGreatDoorTie
import Derived.SevenTiedAt
namespace Go.Proofs.YtnkdcmibafjplaaGreatDoor.topCopiesAreRepaired
open Go.ChangeShapes Go.WideShapes Go.ChangeAt Go.RowKit Go.Proofs.YtnkdcmibafjplaaGreatDoor
set_option linter.unusedVariables false

set_option maxHeartbeats 8000000 in
theorem cardOver : Rows.TopCopiesAreRepairedCardSaid :=
  Claim7.holds_tied_plain_at .later [] [.data, .pinned] true _ false over (fun _ h => by cases h) (by as_aux_lemma => kernel_rfl) (fun _ h => by cases h) topCopiesAreRepaired_row_tie rfl ⟨rfl, rfl⟩ (by as_aux_lemma => kernel_rfl) rfl
    (fun f fn hf hfn => by
      obtain rfl : f = 4 := Option.some.inj ((show Tryz.prog.funcNamed Rows.topCopiesAreRepairedRow.func = some 4 by as_aux_lemma => kernel_rfl).symm.trans hf) |>.symm
      obtain rfl : fn = Tryz.f4 := (Option.some.inj (Tryz.func4.symm.trans hfn)).symm
      exact ⟨by as_aux_lemma => kernel_rfl, fun j t ht => by
        rw [Tryz.params4] at ht
        have hm : t ∈ [37, 3, 3] := by simpa using Array.mem_of_getElem? ht
        have hall : ([37, 3, 3].all fun u => !Tryz.prog.wantsStandIn u) = true := by as_aux_lemma => kernel_rfl
        exact (show Tryz.prog.wantsStandIn t = false by simpa using List.all_eq_true.1 hall t hm)⟩)
    (by as_aux_lemma => kernel_rfl)

end Go.Proofs.YtnkdcmibafjplaaGreatDoor.topCopiesAreRepaired
namespace Go.Proofs.YtnkdcmibafjplaaGreatDoor
/-- The statement. -/
theorem topCopiesAreRepaired_holds : Rows.TopCopiesAreRepairedCardSaid := topCopiesAreRepaired.cardOver
#print axioms topCopiesAreRepaired_holds
end Go.Proofs.YtnkdcmibafjplaaGreatDoor
