/-
  'TopCopiesAreRepaired': for every input the law returns true, and each argument reads behind the call as it read before. No condition.
-/
import Derived.Test.YtnkdcmibafjplaaGreatDoorRows
import Derived.Test.YtnkdcmibafjplaaGreatDoorLaid
import Derived.Test.YtnkdcmibafjplaaGreatDoorGInt
import Derived.Test.YtnkdcmibafjplaaGreatDoorWalkRepaired
namespace Go.Proofs.YtnkdcmibafjplaaGreatDoor.topCopiesAreRepaired
open Go.ChangeShapes Go.WideShapes Go.ChangeAt Go.RowKit Go.Proofs.YtnkdcmibafjplaaGreatDoor
set_option linter.unusedVariables false

set_option maxRecDepth 100000 in
theorem lifted (os : Os) (started : os.Started) (H : Type) (enc : TypeId × Value → H) :
    ReturnsInHanded {} Tryz.checked os 4 .any (fun w args => (Rows.topCopiesAreRepairedSpec.pre enc Tryz.prog Tryz.f4 Rows.topCopiesAreRepairedRow.domain false w args ∧ laidMetH Tryz.prog Rows.topCopiesAreRepairedRow.laid w) ∧ sizedMet enc Tryz.prog Tryz.f4 (OpenSpec.ofChange Rows.topCopiesAreRepairedSpec) false w args)
      (Rows.topCopiesAreRepairedSpec.post enc Tryz.prog Tryz.f4 false true false false) := by
  refine returnsInHanded_of_change_and_shaped (C := Tryz.checked) (X := fun w _ => laidMetH Tryz.prog Rows.topCopiesAreRepairedRow.laid w) (fun _ _ _ hh h => h.of_heap hh) own started (by kernel_rfl) Tryz.func4
    (ChangeSpec.witness_shaped (enc := enc) (C := Tryz.checked) (os := os) (X := fun w _ => laidMetH Tryz.prog Rows.topCopiesAreRepairedRow.laid w) false (putTabs (World.holding Tryz.prog os ⟨#[], #[], []⟩)) #[.slice none 0 0, .int .i64 0, .int .i64 0] 8 rfl (shaped os _) (by kernel_rfl) (by kernel_rfl) (by kernel_rfl) (laid_met os _)) ?_
  intro W base args ds gs before hval0 hW hcnd hsz0 hL hSh _
  have hval : ∀ (j : Nat) t v, Tryz.f4.params[j]? = some t → args[j]? = some v → Value.okWide Tryz.prog W .any base t v := hval0
  have hW' := hW
  obtain ⟨p, q, hA0, hV, rfl, hfz, hnd⟩ := hW
  have hA : DataW.TrodAll enc Tryz.prog W 0 (fun _ => true) true Tryz.f4.params.toList args.toList ds p := hA0
  have hsz : (DataW.weightsEach Tryz.prog (Tryz.f4.params.toList ++ Rows.topCopiesAreRepairedSpec.plain.varTypes Tryz.prog) (ds ++ gs)).all (· ≤ reachBytes) = true := hsz0
  rw [Tryz.params4] at hA hval hsz
  obtain ⟨v0, vs0, d0, ds0, p0, q0, hargs, rfl, rfl, h0, r0⟩ := trodAll_cons hA
  obtain ⟨v1, vs1, d1, ds1, p1, q1, rfl, rfl, rfl, h1, r1⟩ := trodAll_cons r0
  obtain ⟨v2, vs2, d2, ds2, p2, q2, rfl, rfl, rfl, h2, r2⟩ := trodAll_cons r1
  obtain ⟨rfl, rfl, rfl⟩ := trodAll_nil r2
  obtain rfl : args = #[v0, v1, v2] := by cases args; simp_all
  obtain ⟨rfl, rfl⟩ := trodVars_none hV
  have hlt : ∀ x ∈ p0 ++ p1 ++ p2, x.block < W.heap.size := fun x hx => by simpa using hW'.lt x (by simpa using hx)
  obtain ⟨A0, n0, c0, rfl⟩ := okWide_slice Tryz.underlying37 (hval 0 37 v0 rfl rfl)
  obtain ⟨f0, e0⟩ := h0
  have h0 : DataW.Trod enc Tryz.prog W 0 (fun _ => true) true 37 _ d0 p0 := ⟨f0, e0⟩
  obtain ⟨a0, ok0, fit0⟩ := opens_files H enc W f0 _ _ e0
  have fits0 := fit0 (fun n hn => by have := List.all_eq_true.1 hsz n (DataW.weights_mem_each (j := 0) rfl rfl n hn); simpa using this)
  obtain ⟨n1, rfl⟩ := okWide_int Tryz.underlying3 (hval 1 3 v1 rfl rfl)
  obtain ⟨f1, e1⟩ := h1
  have h1 : DataW.Trod enc Tryz.prog W 0 (fun _ => true) true 3 _ d1 p1 := ⟨f1, e1⟩
  obtain ⟨a1, ok1, fit1⟩ := (opens_int Tryz.underlying3) H enc W f1 _ _ e1
  have fits1 := fit1 (fun n hn => by have := List.all_eq_true.1 hsz n (DataW.weights_mem_each (j := 1) rfl rfl n hn); simpa using this)
  obtain ⟨n2, rfl⟩ := okWide_int Tryz.underlying3 (hval 2 3 v2 rfl rfl)
  obtain ⟨f2, e2⟩ := h2
  have h2 : DataW.Trod enc Tryz.prog W 0 (fun _ => true) true 3 _ d2 p2 := ⟨f2, e2⟩
  obtain ⟨a2, ok2, fit2⟩ := (opens_int Tryz.underlying3) H enc W f2 _ _ e2
  have fits2 := fit2 (fun n hn => by have := List.all_eq_true.1 hsz n (DataW.weights_mem_each (j := 2) rfl rfl n hn); simpa using this)
  clear hA0 hval0 hsz0 hsz
  simp only [List.append_nil] at hW'
  refine (repairedLaw_any _ a0 _ a1 _ a2 W ok0 fits0 ok1 fits1 ok2 fits2 (gint_of hSh)).mono fun e W' ⟨he, hb⟩ => ?_
  subst he
  refine ⟨_, rfl, _, _, _, [], p0 ++ (p1 ++ (p2 ++ ([]))), [], hW', ?_, ?_, rfl, hb.frame _, fun h => by cases h⟩
  · exact trodAll_cons_mk (shut_bool Tryz.underlying4 true) trodAll_mk0
  · exact (trodAll_cons_mk (Below.trod laid (by kernel_rfl) (of_decide_eq_true (by kernel_rfl)) h0 hb (fun x hx => hlt x (by simp [hx]))) (trodAll_cons_mk (Below.trod laid (by kernel_rfl) (of_decide_eq_true (by kernel_rfl)) h1 hb (fun x hx => hlt x (by simp [hx]))) (trodAll_cons_mk (Below.trod laid (by kernel_rfl) (of_decide_eq_true (by kernel_rfl)) h2 hb (fun x hx => hlt x (by simp [hx]))) trodAll_mk0)))

end Go.Proofs.YtnkdcmibafjplaaGreatDoor.topCopiesAreRepaired
