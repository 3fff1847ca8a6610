/-
  'Tree', 'Root' of both packages; SameRows.
-/
import Derived.Test.YtnnoolemmnailaaDoorProg
import Derived.Test.YtnnoolemmnailaaDoorRefTree
import Derived.Test.YtnnoolemmnailaaDoorRepeat
import Derived.Test.YtnnoolemmnailaaDoorEqS
import Derived.Deep.QuietTactic
import Derived.BigQuiet
namespace Go.Proofs.YtnnoolemmnailaaDoor
open Go.RowKit
set_option linter.unusedVariables false
set_option linter.unusedSimpArgs false

theorem leafF_ok {x : Leaf} (h : leafF x = 0) : isRowB x.key 2100 = true ∧ isDig x.digest = true := by
  unfold leafF at h
  split at h
  · omega
  · rename_i h'
    rw [not_or] at h'
    exact ⟨by simpa using h'.1, by simpa using h'.2⟩
theorem leaf_len {x : Leaf} (h : leafF x = 0) : x.key.length ≤ 100000 ∧ x.digest.length ≤ 100000 := by
  have h1 := isRowB_len (leafF_ok h).1
  have h2 := isDig_len (leafF_ok h).2
  omega
theorem lvF_leaf {l : List Leaf} {i : Nat} (hi : i < l.length) (h : lvF l i = 0) : leafF l[i] = 0 := by
  unfold lvF at h
  rw [getD_at _ _ hi] at h
  split at h
  · exact h
  · rename_i h'; simpa using h'
theorem leaves_ok {l : List Leaf} (h : leavesFault l = 0) : l.length ≤ 1000 ∧ ∀ x ∈ l, leafF x = 0 := by
  unfold leavesFault at h
  split at h
  · omega
  · refine ⟨by omega, fun x hx => ?_⟩
    obtain ⟨i, hi, rfl⟩ := List.getElem_of_mem hx
    exact lvF_leaf hi (firstF_all h i hi)
theorem leaves_len {l : List Leaf} (h : leavesFault l = 0) : l.length ≤ 1000 ∧ ∀ x ∈ l, x.key.length ≤ 100000 ∧ x.digest.length ≤ 100000 :=
  ⟨(leaves_ok h).1, fun x hx => leaf_len ((leaves_ok h).2 x hx)⟩
def treeTopL (l : List Leaf) : List (List Str8) := if leavesFault l = 0 then treeOf l else []
def TreeTop (l : List Leaf) (w : World) (e : Ending) (w' : World) : Prop :=
  ∃ v, e = .returned (.tuple #[v, .int .i64 (leavesFault l)]) ∧ (Rp.sl rowRp).ok w' (· < w'.heap.size) [v] (treeTopL l) ∧ Below w.heap.size w w'
def rootTopL (l : List Leaf) : Str8 := if leavesFault l = 0 then rootOf l else []
def RootTop (l : List Leaf) (w : World) (e : Ending) (w' : World) : Prop :=
  e = .returned (.tuple #[.string (bstr (rootTopL l)), .int .i64 (leavesFault l)]) ∧ Below w.heap.size w w'
/-- The last row has one digest: the root. -/
theorem root_last {l : List Leaf} (h : l ≠ []) : ∃ hl : (treeOf l).length - 1 < (treeOf l).length, (treeOf l)[(treeOf l).length - 1] = [rootOf l] := by
  obtain ⟨d, hd⟩ := rowsFrom_last (l.map leafD) (by simpa using h)
  have hne : treeOf l ≠ [] := by rw [treeOf_some h]; exact rowsFrom_ne _
  have hpos := List.length_pos_iff.2 hne
  refine ⟨by omega, ?_⟩
  have e1 : (treeOf l).getLastD [] = (treeOf l)[(treeOf l).length - 1]'(by omega) := by
    rw [List.getLastD_eq_getLast?, List.getLast?_eq_getElem?, List.getElem?_eq_getElem (by omega)]; rfl
  rw [← treeOf_some h] at hd
  rw [rootOf, if_neg h, ← e1, hd]; rfl
theorem tree_pos {l : List Leaf} (h : l ≠ []) : 0 < (treeOf l).length := by
  rw [treeOf_some h]; exact List.length_pos_iff.2 (rowsFrom_ne _)
/-- A row of a tree that reads. -/
theorem tree_at {w : World} {S : Nat → Prop} {v : Value} {t : List (List Str8)} (h : (Rp.sl rowRp).ok w S [v] t) {k : Nat} (hk : k < t.length) :
    ∃ ad c v1, v = .slice (some ad) t.length c ∧ S (ad.add k).block ∧ w.cell? (ad.add k) = some v1 ∧ (Rp.sl Rp.str).ok w S [v1] (t[k].map bstr) := by
  obtain ⟨A, c, rfl, _⟩ := Rp.sl_open h
  obtain ⟨ad, u, e1, hb, hu, hcell⟩ := Rp.sl_at1 rfl h hk
  cases e1
  exact ⟨ad, c, u, rfl, by rw [add_block]; exact hb, hcell, hu⟩
set_option maxRecDepth 100000 in
set_option maxHeartbeats 1000000 in
theorem treeTop_any (v0 : Value) (l : List Leaf) (w : World) (h0 : (Rp.sl leafRp).ok w (· < w.heap.size) [v0] l) :
    Calls Tryd.prog 43 #[v0] w (TreeTop l w) := by
  have H0 := Lib.hid h0
  clear h0
  go_enter Tryd.func43, Tryd.ntmps43
  go_wp2_with fail
  refine (checkLeaves_any v0 l w H0.out).mono ?_
  rintro e w1 ⟨rfl, hb1⟩
  have HB1 := Lib.hid hb1
  clear hb1
  by_cases hf : leavesFault l = 0
  · rw [hf]
    have HF := Lib.hid hf
    have hlen := leaves_len hf
    clear hf
    go_wp2_with fail
    refine (tree_any v0 l w1 (Rp.ext _ H0.out HB1.out) hlen.1 hlen.2).mono ?_
    rintro e w2 ⟨v, rfl, hv, hb2⟩
    have HP := Lib.hid (show TreeTop l w (.returned (.tuple #[v, .int .i64 0])) w2 from ⟨_, by rw [HF.out], by rw [treeTopL, if_pos HF.out]; exact hv, HB1.out.trans (hb2.mono HB1.out.size)⟩)
    clear hv hb2
    go_wp2
    go_ret2
    exact HP.out
  · have HP := Lib.hid (show TreeTop l w (.returned (.tuple #[.slice none 0 0, .int .i64 (leavesFault l)])) w1 from ⟨_, rfl, by rw [treeTopL, if_neg hf]; exact Rp.sl_nil _ _ _, HB1.out⟩)
    generalize leavesFault l = f at *
    go_wp2_with fail
    go_ret2
    exact HP.out
set_option maxRecDepth 100000 in
set_option maxHeartbeats 1000000 in
theorem refTreeTop_any (v0 : Value) (l : List Leaf) (w : World) (h0 : (Rp.sl leafRp).ok w (· < w.heap.size) [v0] l) :
    Calls Tryd.prog 44 #[v0] w (TreeTop l w) := by
  have H0 := Lib.hid h0
  clear h0
  go_enter Tryd.func44, Tryd.ntmps44
  go_wp2_with fail
  refine (refCheckLeaves_any v0 l w H0.out).mono ?_
  rintro e w1 ⟨rfl, hb1⟩
  have HB1 := Lib.hid hb1
  clear hb1
  by_cases hf : leavesFault l = 0
  · rw [hf]
    have HF := Lib.hid hf
    have hlen := leaves_len hf
    clear hf
    go_wp2_with fail
    refine (refTree_any v0 l w1 (Rp.ext _ H0.out HB1.out) hlen.1 hlen.2).mono ?_
    rintro e w2 ⟨v, rfl, hv, hb2⟩
    have HP := Lib.hid (show TreeTop l w (.returned (.tuple #[v, .int .i64 0])) w2 from ⟨_, by rw [HF.out], by rw [treeTopL, if_pos HF.out]; exact hv, HB1.out.trans (hb2.mono HB1.out.size)⟩)
    clear hv hb2
    go_wp2
    go_ret2
    exact HP.out
  · have HP := Lib.hid (show TreeTop l w (.returned (.tuple #[.slice none 0 0, .int .i64 (leavesFault l)])) w1 from ⟨_, rfl, by rw [treeTopL, if_neg hf]; exact Rp.sl_nil _ _ _, HB1.out⟩)
    generalize leavesFault l = f at *
    go_wp2_with fail
    go_ret2
    exact HP.out
set_option maxRecDepth 100000 in
set_option maxHeartbeats 1000000 in
theorem root_any (v0 : Value) (l : List Leaf) (w : World) (h0 : (Rp.sl leafRp).ok w (· < w.heap.size) [v0] l) :
    Calls Tryd.prog 15 #[v0] w (RootTop l w) := by
  have H0 := Lib.hid h0
  clear h0
  go_enter Tryd.func15, Tryd.ntmps15
  go_wp2_with fail
  refine (checkLeaves_any v0 l w H0.out).mono ?_
  rintro e w1 ⟨rfl, hb1⟩
  have HB1 := Lib.hid hb1
  clear hb1
  by_cases hf : leavesFault l = 0
  · rw [hf]
    have HF := Lib.hid hf
    have hlen := leaves_len hf
    clear hf
    go_wp2_with fail
    refine (tree_any v0 l w1 (Rp.ext _ H0.out HB1.out) hlen.1 hlen.2).mono ?_
    rintro e w2 ⟨v, rfl, hv, hb2⟩
    have HB2 := Lib.hid (HB1.out.trans (hb2.mono HB1.out.size))
    clear hb2
    by_cases hnil : l = []
    · subst hnil
      obtain ⟨A, c, rfl, hcl, hcm, hn0⟩ := Rp.sl_open hv
      have HP := Lib.hid (show RootTop [] w (.returned (.tuple #[.string ⟨#[48, 48, 48, 48, 48, 48, 48, 48, 48, 48, 48, 48, 48, 48, 48, 48]⟩, .int .i64 0])) w2 from ⟨by rw [HF.out]; rfl, HB2.out⟩)
      rw [treeOf_nil] at *
      clear hv
      go_wp2_with fail
      go_ret2
      exact HP.out
    · obtain ⟨hlt, hlast⟩ := root_last hnil
      obtain ⟨ad, c, v1, rfl, _, hc1, hv1⟩ := tree_at hv hlt
      rw [hlast] at hv1
      obtain ⟨A1, c1, rfl, hcl1, hcm1, _⟩ := Rp.sl_open hv1
      obtain ⟨ad1, u, e1, _, hu, hcell⟩ := Rp.sl_at1 rfl hv1 (k := 0) (by simp)
      cases e1
      obtain ⟨e2, _⟩ := hu
      injection e2 with e2
      subst e2
      have HP := Lib.hid (show RootTop l w (.returned (.tuple #[.string (bstr (rootOf l)), .int .i64 0])) w2 from ⟨by rw [HF.out, rootTopL, if_pos HF.out], HB2.out⟩)
      have hpos := tree_pos hnil
      have htl : (treeOf l).length ≤ 1000 := by
        rw [treeOf_some hnil]
        have := rowsFrom_len (l.map leafD) (by simpa using hnil)
        rw [List.length_map] at this
        omega
      have hcell' : w2.cell? ad1 = some (.string (bstr (rootOf l))) := by rw [add_nil] at hcell; exact hcell
      clear hv hv1 hcell hlast
      generalize rootOf l = d at *
      generalize (treeOf l).length = n at *
      have z1 : ((n : Int) == 0) = false := by rw [beq_eq_false_iff_ne]; omega
      have z2 : IntKind.i64.wrap ((n : Int) - 1) = ((n - 1 : Nat) : Int) := by rw [IntWalk.i64_in _ (by omega)]; omega
      go_wp2_with fail
      go_ret2
      exact HP.out
  · have HP := Lib.hid (show RootTop l w (.returned (.tuple #[.string ⟨#[]⟩, .int .i64 (leavesFault l)])) w1 from ⟨by rw [rootTopL, if_neg hf]; rfl, HB1.out⟩)
    generalize leavesFault l = f at *
    go_wp2_with fail
    go_ret2
    exact HP.out
set_option maxRecDepth 100000 in
set_option maxHeartbeats 1000000 in
theorem refRoot_any (v0 : Value) (l : List Leaf) (w : World) (h0 : (Rp.sl leafRp).ok w (· < w.heap.size) [v0] l) :
    Calls Tryd.prog 46 #[v0] w (RootTop l w) := by
  have H0 := Lib.hid h0
  clear h0
  go_enter Tryd.func46, Tryd.ntmps46
  go_wp2_with fail
  refine (refCheckLeaves_any v0 l w H0.out).mono ?_
  rintro e w1 ⟨rfl, hb1⟩
  have HB1 := Lib.hid hb1
  clear hb1
  by_cases hf : leavesFault l = 0
  · rw [hf]
    have HF := Lib.hid hf
    have hlen := leaves_len hf
    clear hf
    go_wp2_with fail
    refine (refTree_any v0 l w1 (Rp.ext _ H0.out HB1.out) hlen.1 hlen.2).mono ?_
    rintro e w2 ⟨v, rfl, hv, hb2⟩
    have HB2 := Lib.hid (HB1.out.trans (hb2.mono HB1.out.size))
    clear hb2
    by_cases hnil : l = []
    · subst hnil
      obtain ⟨A, c, rfl, hcl, hcm, hn0⟩ := Rp.sl_open hv
      have HP := Lib.hid (show RootTop [] w (.returned (.tuple #[.string ⟨#[48, 48, 48, 48, 48, 48, 48, 48, 48, 48, 48, 48, 48, 48, 48, 48]⟩, .int .i64 0])) w2 from ⟨by rw [HF.out]; rfl, HB2.out⟩)
      rw [treeOf_nil] at *
      clear hv
      go_wp2_with fail
      refine (repeat0_any w2).mono ?_
      rintro e w3 ⟨rfl, hb3⟩
      have HP3 := Lib.hid (show RootTop [] w _ w3 from ⟨HP.out.1, HB2.out.trans (hb3.mono HB2.out.size)⟩)
      clear hb3
      go_wp2_with fail
      go_ret2
      exact HP3.out
    · obtain ⟨hlt, hlast⟩ := root_last hnil
      obtain ⟨ad, c, v1, rfl, _, hc1, hv1⟩ := tree_at hv hlt
      rw [hlast] at hv1
      obtain ⟨A1, c1, rfl, hcl1, hcm1, _⟩ := Rp.sl_open hv1
      obtain ⟨ad1, u, e1, _, hu, hcell⟩ := Rp.sl_at1 rfl hv1 (k := 0) (by simp)
      cases e1
      obtain ⟨e2, _⟩ := hu
      injection e2 with e2
      subst e2
      have HP := Lib.hid (show RootTop l w (.returned (.tuple #[.string (bstr (rootOf l)), .int .i64 0])) w2 from ⟨by rw [HF.out, rootTopL, if_pos HF.out], HB2.out⟩)
      have hpos := tree_pos hnil
      have htl : (treeOf l).length ≤ 1000 := by
        rw [treeOf_some hnil]
        have := rowsFrom_len (l.map leafD) (by simpa using hnil)
        rw [List.length_map] at this
        omega
      have hcell' : w2.cell? ad1 = some (.string (bstr (rootOf l))) := by rw [add_nil] at hcell; exact hcell
      clear hv hv1 hcell hlast
      generalize rootOf l = d at *
      generalize (treeOf l).length = n at *
      have z1 : ((n : Int) == 0) = false := by rw [beq_eq_false_iff_ne]; omega
      have z2 : IntKind.i64.wrap ((n : Int) - 1) = ((n - 1 : Nat) : Int) := by rw [IntWalk.i64_in _ (by omega)]; omega
      go_wp2_with fail
      go_ret2
      exact HP.out
  · have HP := Lib.hid (show RootTop l w (.returned (.tuple #[.string ⟨#[]⟩, .int .i64 (leavesFault l)])) w1 from ⟨by rw [rootTopL, if_neg hf]; rfl, HB1.out⟩)
    generalize leavesFault l = f at *
    go_wp2_with fail
    go_ret2
    exact HP.out
end Go.Proofs.YtnnoolemmnailaaDoor
