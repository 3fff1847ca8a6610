/-
  'CarePackagesMatchSpec': the law returns true, and each argument reads behind the call as it read before. CONDITION: what the call reads is of bulk at most 1048576.
-/
import Derived.Test.YtbafnemcdhdagaaDoorRows
import Derived.Test.YtbafnemcdhdagaaDoorLaid
import Derived.Test.YtbafnemcdhdagaaDoorGInt
import Derived.Test.YtbafnemcdhdagaaDoorWalkPack
namespace Go.Proofs.YtbafnemcdhdagaaDoor.carePackagesMatchSpec
open Go.ChangeShapes Go.WideShapes Go.ChangeAt Go.RowKit Go.Proofs.YtbafnemcdhdagaaDoor
set_option linter.unusedVariables false

theorem reads (os : Os) {H : Type} (enc : TypeId × Value → H) : ∃ places, DataW.whole enc Tryd.prog ((putTabs (World.holding Tryd.prog os ⟨#[], #[], []⟩)).forCall (fun _ _ => 0) ⟨#[], #[.agg #[.string ⟨#[]⟩, .slice none 0 0], .string ⟨#[]⟩, .slice none 0 0], []⟩).memory Tryd.f6.params.toList (Rows.OpenSpec.upto Rows.carePackagesMatchSpecSpec).vars false #[.agg #[.string ⟨#[]⟩, .slice none 0 0], .string ⟨#[]⟩, .slice none 0 0].toList 8 = some ([.agg [.lit (.string []), .nil], .lit (.string []), .nil], [], places) :=
  ⟨[], by kernel_rfl⟩
set_option maxRecDepth 100000 in
theorem lifted (os : Os) (started : os.Started) (H : Type) (enc : TypeId × Value → H) (F : Stop.Interp) :
    ReturnsInHanded {} Tryd.checked os 6 .any ((Rows.OpenSpec.upto Rows.carePackagesMatchSpecSpec).preRow enc Tryd.prog Tryd.f6 Rows.carePackagesMatchSpecUptoRow.domain false Rows.carePackagesMatchSpecUptoRow.laid) (((Rows.OpenSpec.upto Rows.carePackagesMatchSpecSpec).at F).post enc Tryd.prog Tryd.f6 false true false false) := by
  obtain ⟨places, hx⟩ := reads os enc
  refine returnsInHanded_of_row (C := Tryd.checked) (s := Rows.OpenSpec.upto Rows.carePackagesMatchSpecSpec) own started (by kernel_rfl) Tryd.func6
    (witness_row_atRef (enc := enc) (C := Tryd.checked) false (putTabs (World.holding Tryd.prog os ⟨#[], #[], []⟩)) #[.agg #[.string ⟨#[]⟩, .slice none 0 0], .string ⟨#[]⟩, .slice none 0 0] rfl (by kernel_rfl) (by kernel_rfl) (by kernel_rfl)
      (OpenSpec.preRow_of_cond 8 hx (by kernel_rfl) (fun k hk => by cases hk; kernel_rfl) (by kernel_rfl) (laid_met os _))) ?_
  intro W base args ds gs before hval0 hW hcnd hku0 hsz0 hL hSh _
  have hku := hku0 _ rfl
  have hval : ∀ (j : Nat) t v, Tryd.f6.params[j]? = some t → args[j]? = some v → Value.okWide Tryd.prog W .any base t v := hval0
  have hW' := hW
  obtain ⟨p, q, hA0, hV, rfl, hfz, hnd⟩ := hW
  have hA : DataW.TrodAll enc Tryd.prog W 0 (fun _ => true) true Tryd.f6.params.toList args.toList ds p := hA0
  have hsz : (DataW.weightsEach Tryd.prog (Tryd.f6.params.toList ++ Rows.carePackagesMatchSpecSpec.plain.varTypes Tryd.prog) (ds ++ gs)).all (· ≤ reachBytes) = true := hsz0
  rw [Tryd.params6] at hA hval hsz
  obtain ⟨v0, vs0, d0, ds0, p0, q0, hargs, rfl, rfl, h0, r0⟩ := trodAll_cons hA
  obtain ⟨v1, vs1, d1, ds1, p1, q1, rfl, rfl, rfl, h1, r1⟩ := trodAll_cons r0
  obtain ⟨v2, vs2, d2, ds2, p2, q2, rfl, rfl, rfl, h2, r2⟩ := trodAll_cons r1
  obtain ⟨rfl, rfl, rfl⟩ := trodAll_nil r2
  obtain rfl : args = #[v0, v1, v2] := by cases args; simp_all
  obtain ⟨rfl, rfl⟩ := trodVars_none hV
  have hlt : ∀ x ∈ p0 ++ p1 ++ p2, x.block < W.heap.size := fun x hx => by simpa using hW'.lt x (by simpa using hx)
  obtain ⟨cs0, rfl, _⟩ := okWide_struct Tryd.underlying55 (hval 0 55 v0 rfl rfl)
  obtain ⟨f0, e0⟩ := h0
  have h0 : DataW.Trod enc Tryd.prog W 0 (fun _ => true) true 55 _ d0 p0 := ⟨f0, e0⟩
  obtain ⟨a0, ok0, fit0, bulk0⟩ := opens_pk H enc W f0 _ _ e0
  have fits0 := fit0 (fun n hn => by have := List.all_eq_true.1 hsz n (DataW.weights_mem_each (j := 0) rfl rfl n hn); simpa using this)
  obtain ⟨s1, rfl⟩ := okWide_string Tryd.underlying9 (hval 1 9 v1 rfl rfl)
  obtain ⟨f1, e1⟩ := h1
  have h1 : DataW.Trod enc Tryd.prog W 0 (fun _ => true) true 9 _ d1 p1 := ⟨f1, e1⟩
  obtain ⟨a1, ok1, fit1⟩ := (opens_str Tryd.underlying9) H enc W f1 _ _ e1
  have fits1 := fit1 (fun n hn => by have := List.all_eq_true.1 hsz n (DataW.weights_mem_each (j := 1) rfl rfl n hn); simpa using this)
  obtain ⟨A2, n2, c2, rfl⟩ := okWide_slice Tryd.underlying56 (hval 2 56 v2 rfl rfl)
  obtain ⟨f2, e2⟩ := h2
  have h2 : DataW.Trod enc Tryd.prog W 0 (fun _ => true) true 56 _ d2 p2 := ⟨f2, e2⟩
  obtain ⟨a2, ok2, fit2, bulk2⟩ := opens_files H enc W f2 _ _ e2
  have fits2 := fit2 (fun n hn => by have := List.all_eq_true.1 hsz n (DataW.weights_mem_each (j := 2) rfl rfl n hn); simpa using this)
  have hkk : Rows.uptoBulkAll ([d0, d1, d2] ++ []) ≤ 1048576 := of_decide_eq_true hku
  have small0 := Nat.le_trans bulk0 (Nat.le_trans (bulk_mem (d := d0) (by simp)) hkk)
  have small2 := Nat.le_trans bulk2 (Nat.le_trans (bulk_mem (d := d2) (by simp)) hkk)
  clear hA0 hval0 hsz0 hsz
  simp only [List.append_nil] at hW'
  refine (packLaw_any _ a0 _ a1 _ a2 W ok0 fits0 small0 ok1 fits1 ok2 fits2 small2 (gint_of hSh)).mono fun e W' ⟨he, hb⟩ => ?_
  subst he
  refine ⟨_, rfl, _, _, _, [], p0 ++ (p1 ++ (p2 ++ ([]))), [], hW', ?_, ?_, rfl, hb.frame _, fun h => by cases h⟩
  · exact trodAll_cons_mk (shut_bool Tryd.underlying4 true) trodAll_mk0
  · exact (trodAll_cons_mk (Below.trod laid (by kernel_rfl) (of_decide_eq_true (by kernel_rfl)) h0 hb (fun x hx => hlt x (by simp [hx]))) (trodAll_cons_mk (Below.trod laid (by kernel_rfl) (of_decide_eq_true (by kernel_rfl)) h1 hb (fun x hx => hlt x (by simp [hx]))) (trodAll_cons_mk (Below.trod laid (by kernel_rfl) (of_decide_eq_true (by kernel_rfl)) h2 hb (fun x hx => hlt x (by simp [hx]))) trodAll_mk0)))

end Go.Proofs.YtbafnemcdhdagaaDoor.carePackagesMatchSpec
