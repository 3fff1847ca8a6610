/-
  'AlikeSignaturesMatchSpec': for every input the law returns true, and each argument reads behind the call as it read before. No condition.
-/
import Derived.Test.YtllbklnljmgppaaRows
import Derived.Test.YtllbklnljmgppaaTypes
import Derived.Test.YtllbklnljmgppaaWalkSign
namespace Go.Proofs.Ytllbklnljmgppaa.alikeSignaturesMatchSpec
open Go.ChangeShapes Go.WideShapes Go.ChangeAt Go.RowKit Go.Proofs.Ytllbklnljmgppaa
set_option linter.unusedVariables false

theorem own : ownKnob Try.prog.godebug = none := by kernel_rfl
theorem laid : laidOutB Try.prog = true := by kernel_rfl

set_option maxRecDepth 100000 in
theorem lifted (os : Os) (started : os.Started) (H : Type) (enc : TypeId × Value → H) :
    ReturnsInHanded {} Try.checked os 6 .any (Rows.alikeSignaturesMatchSpecSpec.pre6 enc Try.prog Try.f6 Rows.alikeSignaturesMatchSpecRow.domain false) (Rows.alikeSignaturesMatchSpecSpec.post enc Try.prog Try.f6 false true false false) := by
  refine returnsInHanded_of_change_sized (C := Try.checked) own started (by kernel_rfl) Try.func6
    (ChangeSpec.witness6 (enc := enc) (C := Try.checked) false ⟨#[], #[.int .u64 0, .int .i64 0, .string ⟨#[]⟩, .string ⟨#[]⟩, .int .i64 0, .int .i64 0, .int .i64 0], []⟩ 8 (by kernel_rfl) (by kernel_rfl) (by kernel_rfl) (by kernel_rfl)) ?_
  intro W base args ds gs before hval0 hW hcnd hsz0 _
  have hval : ∀ (j : Nat) t v, Try.f6.params[j]? = some t → args[j]? = some v → Value.okWide Try.prog W .any base t v := hval0
  have hW' := hW
  obtain ⟨p, q, hA0, hV, rfl, hfz, hnd⟩ := hW
  have hA : DataW.TrodAll enc Try.prog W 0 (fun _ => true) true Try.f6.params.toList args.toList ds p := hA0
  have hsz : (DataW.weightsEach Try.prog (Try.f6.params.toList ++ Rows.alikeSignaturesMatchSpecSpec.plain.varTypes Try.prog) (ds ++ gs)).all (· ≤ reachBytes) = true := hsz0
  rw [Try.params6] at hA hval hsz
  obtain ⟨v0, vs0, d0, ds0, p0, q0, hargs, rfl, rfl, h0, r0⟩ := trodAll_cons hA
  obtain ⟨v1, vs1, d1, ds1, p1, q1, rfl, rfl, rfl, h1, r1⟩ := trodAll_cons r0
  obtain ⟨v2, vs2, d2, ds2, p2, q2, rfl, rfl, rfl, h2, r2⟩ := trodAll_cons r1
  obtain ⟨v3, vs3, d3, ds3, p3, q3, rfl, rfl, rfl, h3, r3⟩ := trodAll_cons r2
  obtain ⟨v4, vs4, d4, ds4, p4, q4, rfl, rfl, rfl, h4, r4⟩ := trodAll_cons r3
  obtain ⟨v5, vs5, d5, ds5, p5, q5, rfl, rfl, rfl, h5, r5⟩ := trodAll_cons r4
  obtain ⟨v6, vs6, d6, ds6, p6, q6, rfl, rfl, rfl, h6, r6⟩ := trodAll_cons r5
  obtain ⟨rfl, rfl, rfl⟩ := trodAll_nil r6
  obtain rfl : args = #[v0, v1, v2, v3, v4, v5, v6] := by cases args; simp_all
  obtain ⟨rfl, rfl⟩ := trodVars_none hV
  have hlt : ∀ x ∈ p0 ++ p1 ++ p2 ++ p3 ++ p4 ++ p5 ++ p6, x.block < W.heap.size := fun x hx => by simpa using hW'.lt x (by simpa using hx)
  obtain ⟨n0, rfl⟩ := okWide_int Try.underlying27 (hval 0 27 v0 rfl rfl)
  obtain ⟨f0, e0⟩ := h0
  have h0 : DataW.Trod enc Try.prog W 0 (fun _ => true) true 27 _ d0 p0 := ⟨f0, e0⟩
  obtain ⟨a0, ok0, fit0⟩ := (opens_int Try.underlying27) H enc W f0 _ _ e0
  have fits0 := fit0 (fun n hn => by have := List.all_eq_true.1 hsz n (DataW.weights_mem_each (j := 0) rfl rfl n hn); simpa using this)
  obtain ⟨n1, rfl⟩ := okWide_int Try.underlying3 (hval 1 3 v1 rfl rfl)
  obtain ⟨f1, e1⟩ := h1
  have h1 : DataW.Trod enc Try.prog W 0 (fun _ => true) true 3 _ d1 p1 := ⟨f1, e1⟩
  obtain ⟨a1, ok1, fit1⟩ := (opens_int Try.underlying3) H enc W f1 _ _ e1
  have fits1 := fit1 (fun n hn => by have := List.all_eq_true.1 hsz n (DataW.weights_mem_each (j := 1) rfl rfl n hn); simpa using this)
  obtain ⟨s2, rfl⟩ := okWide_string Try.underlying9 (hval 2 9 v2 rfl rfl)
  obtain ⟨f2, e2⟩ := h2
  have h2 : DataW.Trod enc Try.prog W 0 (fun _ => true) true 9 _ d2 p2 := ⟨f2, e2⟩
  obtain ⟨a2, ok2, fit2⟩ := (opens_str Try.underlying9) H enc W f2 _ _ e2
  have fits2 := fit2 (fun n hn => by have := List.all_eq_true.1 hsz n (DataW.weights_mem_each (j := 2) rfl rfl n hn); simpa using this)
  obtain ⟨s3, rfl⟩ := okWide_string Try.underlying9 (hval 3 9 v3 rfl rfl)
  obtain ⟨f3, e3⟩ := h3
  have h3 : DataW.Trod enc Try.prog W 0 (fun _ => true) true 9 _ d3 p3 := ⟨f3, e3⟩
  obtain ⟨a3, ok3, fit3⟩ := (opens_str Try.underlying9) H enc W f3 _ _ e3
  have fits3 := fit3 (fun n hn => by have := List.all_eq_true.1 hsz n (DataW.weights_mem_each (j := 3) rfl rfl n hn); simpa using this)
  obtain ⟨n4, rfl⟩ := okWide_int Try.underlying3 (hval 4 3 v4 rfl rfl)
  obtain ⟨f4, e4⟩ := h4
  have h4 : DataW.Trod enc Try.prog W 0 (fun _ => true) true 3 _ d4 p4 := ⟨f4, e4⟩
  obtain ⟨a4, ok4, fit4⟩ := (opens_int Try.underlying3) H enc W f4 _ _ e4
  have fits4 := fit4 (fun n hn => by have := List.all_eq_true.1 hsz n (DataW.weights_mem_each (j := 4) rfl rfl n hn); simpa using this)
  obtain ⟨n5, rfl⟩ := okWide_int Try.underlying3 (hval 5 3 v5 rfl rfl)
  obtain ⟨f5, e5⟩ := h5
  have h5 : DataW.Trod enc Try.prog W 0 (fun _ => true) true 3 _ d5 p5 := ⟨f5, e5⟩
  obtain ⟨a5, ok5, fit5⟩ := (opens_int Try.underlying3) H enc W f5 _ _ e5
  have fits5 := fit5 (fun n hn => by have := List.all_eq_true.1 hsz n (DataW.weights_mem_each (j := 5) rfl rfl n hn); simpa using this)
  obtain ⟨n6, rfl⟩ := okWide_int Try.underlying3 (hval 6 3 v6 rfl rfl)
  obtain ⟨f6, e6⟩ := h6
  have h6 : DataW.Trod enc Try.prog W 0 (fun _ => true) true 3 _ d6 p6 := ⟨f6, e6⟩
  obtain ⟨a6, ok6, fit6⟩ := (opens_int Try.underlying3) H enc W f6 _ _ e6
  have fits6 := fit6 (fun n hn => by have := List.all_eq_true.1 hsz n (DataW.weights_mem_each (j := 6) rfl rfl n hn); simpa using this)
  clear hA0 hval0 hsz0 hsz
  simp only [List.append_nil] at hW'
  refine (signLaw_any _ a0 _ a1 _ a2 _ a3 _ a4 _ a5 _ a6 W ok0 fits0 ok1 fits1 ok2 fits2 ok3 fits3 ok4 fits4 ok5 fits5 ok6 fits6).mono fun e W' ⟨he, hb⟩ => ?_
  subst he
  refine ⟨_, rfl, _, _, _, [], p0 ++ (p1 ++ (p2 ++ (p3 ++ (p4 ++ (p5 ++ (p6 ++ ([]))))))), [], hW', ?_, ?_, rfl, hb.frame _, fun h => by cases h⟩
  · exact trodAll_cons_mk (shut_bool Try.underlying4 true) trodAll_mk0
  · exact (trodAll_cons_mk (Below.trod laid (by kernel_rfl) (of_decide_eq_true (by kernel_rfl)) h0 hb (fun x hx => hlt x (by simp [hx]))) (trodAll_cons_mk (Below.trod laid (by kernel_rfl) (of_decide_eq_true (by kernel_rfl)) h1 hb (fun x hx => hlt x (by simp [hx]))) (trodAll_cons_mk (Below.trod laid (by kernel_rfl) (of_decide_eq_true (by kernel_rfl)) h2 hb (fun x hx => hlt x (by simp [hx]))) (trodAll_cons_mk (Below.trod laid (by kernel_rfl) (of_decide_eq_true (by kernel_rfl)) h3 hb (fun x hx => hlt x (by simp [hx]))) (trodAll_cons_mk (Below.trod laid (by kernel_rfl) (of_decide_eq_true (by kernel_rfl)) h4 hb (fun x hx => hlt x (by simp [hx]))) (trodAll_cons_mk (Below.trod laid (by kernel_rfl) (of_decide_eq_true (by kernel_rfl)) h5 hb (fun x hx => hlt x (by simp [hx]))) (trodAll_cons_mk (Below.trod laid (by kernel_rfl) (of_decide_eq_true (by kernel_rfl)) h6 hb (fun x hx => hlt x (by simp [hx]))) trodAll_mk0)))))))

theorem over : Rows.alikeSignaturesMatchSpecRow.holds Try.pinned (OpenSpec.ofChange Rows.alikeSignaturesMatchSpecSpec) :=
  OpenClaim.holds_of_wide 6 Try.f6 rfl rfl rfl rfl rfl rfl rfl ⟨rfl, rfl, rfl, rfl, rfl⟩ rfl rfl rfl rfl rfl (by kernel_rfl) Try.func6 (by kernel_rfl)
    (of_decide_eq_true (by kernel_rfl)) (by unfold Func.isWrapper; first | (rw [if_pos (by decide +kernel)]; kernel_rfl) | (rw [if_neg (by decide +kernel)]; exact ⟨rfl, rfl⟩))
    (fun os started H enc _ => lifted os started H enc)

end Go.Proofs.Ytllbklnljmgppaa.alikeSignaturesMatchSpec
namespace Go.Proofs.Ytllbklnljmgppaa
/-- The statement. -/
theorem alikeSignaturesMatchSpec_holds : Rows.AlikeSignaturesMatchSpecSaid := alikeSignaturesMatchSpec.over
#print axioms alikeSignaturesMatchSpec_holds
end Go.Proofs.Ytllbklnljmgppaa
