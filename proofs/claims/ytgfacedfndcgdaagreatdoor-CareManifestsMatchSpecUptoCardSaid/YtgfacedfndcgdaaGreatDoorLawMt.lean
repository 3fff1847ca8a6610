/-
  CareManifestsMatchSpec: the law returns true, and each argument reads behind the call as it read before. CONDITION: what the call reads is of bulk at most 1048576.
-/
import Derived.Test.YtgfacedfndcgdaaGreatDoorLawMtO
import Derived.Test.YtgfacedfndcgdaaGreatDoorCards
import Derived.Test.YtgfacedfndcgdaaGreatDoorTie
import Derived.SevenTiedAt
namespace Go.Proofs.YtgfacedfndcgdaaGreatDoor.careManifestsMatchSpec
open Go.ChangeShapes Go.WideShapes Go.ChangeAt Go.RowKit Go.Proofs.YtgfacedfndcgdaaGreatDoor
set_option linter.unusedVariables false

set_option maxHeartbeats 8000000 in
theorem cardOver : Rows.CareManifestsMatchSpecUptoCardSaid :=
  Claim7.holds_tied_plain_at .later [] [.data, .data, .data, .data, .sentinel, .sentinel, .pinned] true _ true over (fun _ h => by cases h) (by as_aux_lemma => kernel_rfl) (fun _ h => by cases h) careManifestsMatchSpecUpto_row_tie rfl ⟨rfl, rfl⟩ (by as_aux_lemma => kernel_rfl) rfl
    (fun f fn hf hfn => by
      obtain rfl : f = 3 := Option.some.inj ((show Tryz.prog.funcNamed Rows.careManifestsMatchSpecUptoRow.func = some 3 by as_aux_lemma => kernel_rfl).symm.trans hf) |>.symm
      obtain rfl : fn = Tryz.f3 := (Option.some.inj (Tryz.func3.symm.trans hfn)).symm
      exact ⟨by as_aux_lemma => kernel_rfl, fun j t ht => by
        rw [Tryz.params3] at ht
        have hm : t ∈ [24] := by simpa using Array.mem_of_getElem? ht
        have hall : ([24].all fun u => !Tryz.prog.wantsStandIn u) = true := by as_aux_lemma => kernel_rfl
        exact (show Tryz.prog.wantsStandIn t = false by simpa using List.all_eq_true.1 hall t hm)⟩)
    (by as_aux_lemma => kernel_rfl)

end Go.Proofs.YtgfacedfndcgdaaGreatDoor.careManifestsMatchSpec
namespace Go.Proofs.YtgfacedfndcgdaaGreatDoor
/-- The statement. -/
theorem careManifestsMatchSpec_holds : Rows.CareManifestsMatchSpecUptoCardSaid := careManifestsMatchSpec.cardOver
#print axioms careManifestsMatchSpec_holds
end Go.Proofs.YtgfacedfndcgdaaGreatDoor
