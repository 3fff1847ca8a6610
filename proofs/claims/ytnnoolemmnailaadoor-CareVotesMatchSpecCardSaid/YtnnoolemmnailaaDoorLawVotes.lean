/-
  CareVotesMatchSpec: for every input the law returns true, and each argument reads behind the call as it read before. No condition.
-/
import Derived.Test.YtnnoolemmnailaaDoorLawVotesO
import Derived.Test.YtnnoolemmnailaaDoorCards
import Derived.Test.YtnnoolemmnailaaDoorTie
import Derived.SevenTiedAt
namespace Go.Proofs.YtnnoolemmnailaaDoor.careVotesMatchSpec
open Go.ChangeShapes Go.WideShapes Go.ChangeAt Go.RowKit Go.Proofs.YtnnoolemmnailaaDoor
set_option linter.unusedVariables false

set_option maxHeartbeats 8000000 in
theorem cardOver : Rows.CareVotesMatchSpecCardSaid :=
  Claim7.holds_tied_plain_at .later [] [.data, .pinned] true _ false over (fun _ h => by cases h) (by as_aux_lemma => kernel_rfl) (fun _ h => by cases h) careVotesMatchSpec_row_tie rfl ⟨rfl, rfl⟩ (by as_aux_lemma => kernel_rfl) rfl
    (fun f fn hf hfn => by
      obtain rfl : f = 8 := Option.some.inj ((show Tryd.prog.funcNamed Rows.careVotesMatchSpecRow.func = some 8 by as_aux_lemma => kernel_rfl).symm.trans hf) |>.symm
      obtain rfl : fn = Tryd.f8 := (Option.some.inj (Tryd.func8.symm.trans hfn)).symm
      exact ⟨by as_aux_lemma => kernel_rfl, fun j t ht => by
        rw [Tryd.params8] at ht
        have hm : t ∈ [54, 55] := by simpa using Array.mem_of_getElem? ht
        have hall : ([54, 55].all fun u => !Tryd.prog.wantsStandIn u) = true := by as_aux_lemma => kernel_rfl
        exact (show Tryd.prog.wantsStandIn t = false by simpa using List.all_eq_true.1 hall t hm)⟩)
    (by as_aux_lemma => kernel_rfl)

end Go.Proofs.YtnnoolemmnailaaDoor.careVotesMatchSpec
namespace Go.Proofs.YtnnoolemmnailaaDoor
/-- The statement. -/
theorem careVotesMatchSpec_holds : Rows.CareVotesMatchSpecCardSaid := careVotesMatchSpec.cardOver
#print axioms careVotesMatchSpec_holds
end Go.Proofs.YtnnoolemmnailaaDoor
