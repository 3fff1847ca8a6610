/-
  'AlikeAppliesMatchSpec': the law returns true, and each argument reads behind the call as it read before. CONDITION: what the call reads is of bulk at most 1048576.
-/
import Derived.Test.YtofahmdjhpbecaaRows
import Derived.Test.YtofahmdjhpbecaaTypes
import Derived.Test.YtofahmdjhpbecaaWalkApp
namespace Go.Proofs.Ytofahmdjhpbecaa.alikeAppliesMatchSpec
open Go.ChangeShapes Go.WideShapes Go.ChangeAt Go.RowKit Go.Proofs.Ytofahmdjhpbecaa
set_option linter.unusedVariables false

theorem own : ownKnob Try.prog.godebug = none := by kernel_rfl
theorem laid : laidOutB Try.prog = true := by kernel_rfl

theorem wit (os : Os) {H : Type} (enc : TypeId × Value → H) :
    ∃ (w : World) (tape : Tape) (i : Input), w.os = os ∧ (w.forCall tape i).Shaped Try.checked.prog ∧ i.vars = [] ∧ Input.okWide Try.checked.prog (w.forCall tape i) .any w.heap.size 12 i ∧
      (Rows.OpenSpec.upto Rows.alikeAppliesMatchSpecSpec).pre6 enc Try.checked.prog Try.f12 Rows.alikeAppliesMatchSpecUptoRow.domain false (w.forCall tape i).memory i.args ∧ ({ modest := false } : Assume).holds Try.checked.prog (lone (Frame.enter Try.checked.prog 12 i.args .normal) [] (w.forCall tape i)) := by
  have hw : (DataW.whole enc Try.checked.prog (World.plainHolding Try.checked.prog os ⟨#[], #[.string ⟨#[]⟩, .slice none 0 0], []⟩).memory Try.f12.params.toList (Rows.OpenSpec.upto Rows.alikeAppliesMatchSpecSpec).vars false #[.string ⟨#[]⟩, .slice none 0 0].toList 8).map (fun x => (x.1, x.2.1)) =
      some ([.lit (.string []), .nil], []) := by kernel_rfl
  obtain ⟨⟨x1, x2, x3⟩, hx, hx1⟩ := Option.map_eq_some_iff.1 hw
  simp only [Prod.mk.injEq] at hx1
  obtain ⟨rfl, rfl⟩ := hx1
  exact OpenSpec.witness (C := Try.checked) (f := 12) (fn := Try.f12) (s := Rows.OpenSpec.upto Rows.alikeAppliesMatchSpecSpec) (k := Rows.uptoSmall) rfl (conds := Rows.alikeAppliesMatchSpecUptoRow.domain) (apart := false) false ⟨#[], #[.string ⟨#[]⟩, .slice none 0 0], []⟩ 8 (by kernel_rfl) (by kernel_rfl) (by kernel_rfl) hx (by kernel_rfl) (by kernel_rfl)
set_option maxRecDepth 100000 in
theorem lifted (os : Os) (started : os.Started) (H : Type) (enc : TypeId × Value → H) (F : Stop.Interp) :
    ReturnsInHanded {} Try.checked os 12 .any ((Rows.OpenSpec.upto Rows.alikeAppliesMatchSpecSpec).pre6 enc Try.prog Try.f12 Rows.alikeAppliesMatchSpecUptoRow.domain false) (((Rows.OpenSpec.upto Rows.alikeAppliesMatchSpecSpec).at F).post enc Try.prog Try.f12 false true false false) := by
  refine returnsInHanded_of_cond_sized (C := Try.checked) (s := Rows.OpenSpec.upto Rows.alikeAppliesMatchSpecSpec) (k := Rows.uptoSmall) rfl own started (by kernel_rfl) Try.func12 (wit os enc) ?_
  intro W base args ds gs before hval0 hW hcnd hku hsz0 _
  have hval : ∀ (j : Nat) t v, Try.f12.params[j]? = some t → args[j]? = some v → Value.okWide Try.prog W .any base t v := hval0
  have hW' := hW
  obtain ⟨p, q, hA0, hV, rfl, hfz, hnd⟩ := hW
  have hA : DataW.TrodAll enc Try.prog W 0 (fun _ => true) true Try.f12.params.toList args.toList ds p := hA0
  have hsz : (DataW.weightsEach Try.prog (Try.f12.params.toList ++ Rows.alikeAppliesMatchSpecSpec.plain.varTypes Try.prog) (ds ++ gs)).all (· ≤ reachBytes) = true := hsz0
  rw [Try.params12] at hA hval hsz
  obtain ⟨v0, vs0, d0, ds0, p0, q0, hargs, rfl, rfl, h0, r0⟩ := trodAll_cons hA
  obtain ⟨v1, vs1, d1, ds1, p1, q1, rfl, rfl, rfl, h1, r1⟩ := trodAll_cons r0
  obtain ⟨rfl, rfl, rfl⟩ := trodAll_nil r1
  obtain rfl : args = #[v0, v1] := by cases args; simp_all
  obtain ⟨rfl, rfl⟩ := trodVars_none hV
  have hlt : ∀ x ∈ p0 ++ p1, x.block < W.heap.size := fun x hx => by simpa using hW'.lt x (by simpa using hx)
  obtain ⟨s0, rfl⟩ := okWide_string Try.underlying9 (hval 0 9 v0 rfl rfl)
  obtain ⟨f0, e0⟩ := h0
  have h0 : DataW.Trod enc Try.prog W 0 (fun _ => true) true 9 _ d0 p0 := ⟨f0, e0⟩
  obtain ⟨a0, ok0, fit0⟩ := (opens_str Try.underlying9) H enc W f0 _ _ e0
  have fits0 := fit0 (fun n hn => by have := List.all_eq_true.1 hsz n (DataW.weights_mem_each (j := 0) rfl rfl n hn); simpa using this)
  obtain ⟨A1, n1, c1, rfl⟩ := okWide_slice Try.underlying57 (hval 1 57 v1 rfl rfl)
  obtain ⟨f1, e1⟩ := h1
  have h1 : DataW.Trod enc Try.prog W 0 (fun _ => true) true 57 _ d1 p1 := ⟨f1, e1⟩
  obtain ⟨a1, ok1, fit1, bulk1⟩ := opens_chs H enc W f1 _ _ e1
  have fits1 := fit1 (fun n hn => by have := List.all_eq_true.1 hsz n (DataW.weights_mem_each (j := 1) rfl rfl n hn); simpa using this)
  have hkk : Rows.uptoBulkAll ([d0, d1] ++ []) ≤ 1048576 := of_decide_eq_true hku
  have small1 := Nat.le_trans bulk1 (Nat.le_trans (bulk_mem (d := d1) (by simp)) hkk)
  clear hA0 hval0 hsz0 hsz
  simp only [List.append_nil] at hW'
  refine (appLawB_any _ a0 _ a1 W ok0 fits0 ok1 fits1 small1).mono fun e W' ⟨he, hb⟩ => ?_
  subst he
  refine ⟨_, rfl, _, _, _, [], p0 ++ (p1 ++ ([])), [], hW', ?_, ?_, rfl, hb.frame _, fun h => by cases h⟩
  · exact trodAll_cons_mk (shut_bool Try.underlying4 true) trodAll_mk0
  · exact (trodAll_cons_mk (Below.trod laid (by kernel_rfl) (of_decide_eq_true (by kernel_rfl)) h0 hb (fun x hx => hlt x (by simp [hx]))) (trodAll_cons_mk (Below.trod laid (by kernel_rfl) (of_decide_eq_true (by kernel_rfl)) h1 hb (fun x hx => hlt x (by simp [hx]))) trodAll_mk0))

theorem over : Rows.alikeAppliesMatchSpecUptoRow.holds Try.pinned (Rows.OpenSpec.upto Rows.alikeAppliesMatchSpecSpec) :=
  OpenClaim.holds_of_cond 12 Try.f12 rfl rfl rfl rfl rfl rfl rfl ⟨rfl, rfl, rfl, rfl, rfl⟩ rfl rfl rfl rfl rfl (by kernel_rfl) Try.func12 (by kernel_rfl)
    (of_decide_eq_true (by kernel_rfl)) (by unfold Func.isWrapper; first | (rw [if_pos (by decide +kernel)]; kernel_rfl) | (rw [if_neg (by decide +kernel)]; exact ⟨rfl, rfl⟩))
    (fun os started H enc _ F => lifted os started H enc F)

end Go.Proofs.Ytofahmdjhpbecaa.alikeAppliesMatchSpec
namespace Go.Proofs.Ytofahmdjhpbecaa
/-- The statement. -/
theorem alikeAppliesMatchSpec_holds : Rows.AlikeAppliesMatchSpecUptoSaid := alikeAppliesMatchSpec.over
#print axioms alikeAppliesMatchSpec_holds
end Go.Proofs.Ytofahmdjhpbecaa
