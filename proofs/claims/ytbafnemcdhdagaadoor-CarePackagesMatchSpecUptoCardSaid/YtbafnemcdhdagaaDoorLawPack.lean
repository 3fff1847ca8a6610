/-
  CarePackagesMatchSpec: the law returns true, and each argument reads behind the call as it read before. CONDITION: what the call reads is of bulk at most 1048576.
-/
import Derived.Test.YtbafnemcdhdagaaDoorLawPackO
import Derived.Test.YtbafnemcdhdagaaDoorCards
import Derived.Test.YtbafnemcdhdagaaDoorTie
import Derived.SevenTiedAt
namespace Go.Proofs.YtbafnemcdhdagaaDoor.carePackagesMatchSpec
open Go.ChangeShapes Go.WideShapes Go.ChangeAt Go.RowKit Go.Proofs.YtbafnemcdhdagaaDoor
set_option linter.unusedVariables false

set_option maxHeartbeats 8000000 in
theorem cardOver : Rows.CarePackagesMatchSpecUptoCardSaid :=
  Claim7.holds_tied_plain_at .later [] [.data, .pinned] true _ false over (fun _ h => by cases h) (by as_aux_lemma => kernel_rfl) (fun _ h => by cases h) carePackagesMatchSpecUpto_row_tie rfl ⟨rfl, rfl⟩ (by as_aux_lemma => kernel_rfl) rfl
    (fun f fn hf hfn => by
      obtain rfl : f = 6 := Option.some.inj ((show Tryd.prog.funcNamed Rows.carePackagesMatchSpecUptoRow.func = some 6 by as_aux_lemma => kernel_rfl).symm.trans hf) |>.symm
      obtain rfl : fn = Tryd.f6 := (Option.some.inj (Tryd.func6.symm.trans hfn)).symm
      exact ⟨by as_aux_lemma => kernel_rfl, fun j t ht => by
        rw [Tryd.params6] at ht
        have hm : t ∈ [55, 9, 56] := by simpa using Array.mem_of_getElem? ht
        have hall : ([55, 9, 56].all fun u => !Tryd.prog.wantsStandIn u) = true := by as_aux_lemma => kernel_rfl
        exact (show Tryd.prog.wantsStandIn t = false by simpa using List.all_eq_true.1 hall t hm)⟩)
    (by as_aux_lemma => kernel_rfl)

end Go.Proofs.YtbafnemcdhdagaaDoor.carePackagesMatchSpec
namespace Go.Proofs.YtbafnemcdhdagaaDoor
/-- The statement. -/
theorem carePackagesMatchSpec_holds : Rows.CarePackagesMatchSpecUptoCardSaid := carePackagesMatchSpec.cardOver
#print axioms carePackagesMatchSpec_holds
end Go.Proofs.YtbafnemcdhdagaaDoor
