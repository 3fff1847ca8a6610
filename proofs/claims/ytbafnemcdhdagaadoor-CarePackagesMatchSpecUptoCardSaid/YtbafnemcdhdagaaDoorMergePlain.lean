/-
  The merge of the reference answers as 'Wrong' of care: plain facts.
-/
import Derived.Test.YtbafnemcdhdagaaDoorProg
import Derived.Test.YtbafnemcdhdagaaDoorWrong
import Derived.Test.YtbafnemcdhdagaaDoorFilesSort
namespace Go.Proofs.YtbafnemcdhdagaaDoor
open Go.RowKit
set_option linter.unusedVariables false
set_option linter.unusedSimpArgs false

def cmpD (x : Ent) (y : FileR) : List Def := if (y.bytes.length : Int) ≠ x.size then [⟨y.path, 3⟩] else if digL y.bytes ≠ x.digest then [⟨y.path, 4⟩] else []
def mergeL : List Ent → List FileR → List Def
  | [], [] => []
  | x :: e, [] => ⟨x.path, 1⟩ :: mergeL e []
  | [], y :: f => ⟨y.path, 2⟩ :: mergeL [] f
  | x :: e, y :: f => if slt x.path y.path = true then ⟨x.path, 1⟩ :: mergeL e (y :: f) else if slt y.path x.path = true then ⟨y.path, 2⟩ :: mergeL (x :: e) f else cmpD x y ++ mergeL e f
termination_by e f => e.length + f.length
def ESort (e : List Ent) : Prop := e.Pairwise (fun a b => Op.bytesLess a.path b.path = true)
def FSort (f : List FileR) : Prop := f.Pairwise (fun a b => Op.bytesLess a.path b.path = true)
theorem haveL_none {f : List FileR} {p : List UInt8} (h : ∀ y ∈ f, y.path ≠ p) : haveL f p = none := by
  unfold haveL
  rw [List.find?_eq_none.2 (fun x hx => by simpa using h x (by simpa using hx))]
  rfl
theorem haveL_cons_ne {y : FileR} {f : List FileR} {p : List UInt8} (h : y.path ≠ p) : haveL (y :: f) p = haveL f p := by
  unfold haveL
  rw [List.reverse_cons, List.find?_append]
  cases hf : f.reverse.find? (fun x => decide (x.path = p)) with
  | some z => rfl
  | none => simp [h]
theorem haveL_head {y : FileR} {f : List FileR} (h : ∀ z ∈ f, z.path ≠ y.path) : haveL (y :: f) y.path = some y.bytes := by
  have hn := haveL_none h
  unfold haveL at *
  rw [List.reverse_cons, List.find?_append]
  cases hf : f.reverse.find? (fun x => decide (x.path = y.path)) with
  | some z => rw [hf] at hn; cases hn
  | none => simp
theorem flatMap_same {α : Type} {f g : α → List Def} : ∀ {l : List α}, (∀ a ∈ l, f a = g a) → l.flatMap f = l.flatMap g
  | [], _ => rfl
  | a :: l, h => by rw [List.flatMap_cons, List.flatMap_cons, h a (by simp), flatMap_same fun b hb => h b (by simp [hb])]
theorem defOf_ne {y : FileR} {f : List FileR} {z : Ent} (h : y.path ≠ z.path) : defOf (y :: f) z = defOf f z := by unfold defOf; rw [haveL_cons_ne h]
theorem newOf_ne {x : Ent} {e : List Ent} {z : FileR} (h : z.path ≠ x.path) : newOf (x :: e) z = newOf e z := by
  have hm : (z.path ∈ (x :: e).map (·.path)) ↔ (z.path ∈ e.map (·.path)) := by rw [List.map_cons, List.mem_cons]; exact or_iff_right h
  unfold newOf
  by_cases h1 : z.path ∈ e.map (·.path)
  · rw [if_pos h1, if_pos (hm.2 h1)]
  · rw [if_neg h1, if_neg (fun k => h1 (hm.1 k))]
theorem merge_perm : ∀ (e : List Ent) (f : List FileR), ESort e → FSort f → (wrongL e f).Perm (mergeL e f)
  | [], [], _, _ => by rw [mergeL]; exact List.Perm.refl _
  | x :: e, [], he, hf => by
    rw [mergeL]
    have ih := merge_perm e [] (List.pairwise_cons.1 he).2 hf
    have h : wrongL (x :: e) [] = ⟨x.path, 1⟩ :: wrongL e [] := by
      rw [wrongL, List.flatMap_cons, defOf_none (haveL_none (fun y hy => absurd hy (by simp)))]; rfl
    rw [h]
    exact ih.cons _
  | [], y :: f, he, hf => by
    rw [mergeL]
    have ih := merge_perm [] f he (List.pairwise_cons.1 hf).2
    have h : wrongL [] (y :: f) = ⟨y.path, 2⟩ :: wrongL [] f := by
      rw [wrongL, List.flatMap_cons, newOf, if_neg (by simp)]; rfl
    rw [h]
    exact ih.cons _
  | x :: e, y :: f, he, hf => by
    have hxe := (List.pairwise_cons.1 he).1
    have hyf := (List.pairwise_cons.1 hf).1
    rw [mergeL]
    by_cases h1 : slt x.path y.path = true
    · rw [if_pos h1]
      have ih := merge_perm e (y :: f) (List.pairwise_cons.1 he).2 hf
      have hall : ∀ z ∈ y :: f, z.path ≠ x.path := fun z hz => by
        rcases List.mem_cons.1 hz with rfl | hz
        · exact (bl_ne h1).symm
        · exact (bl_ne (bl_trans h1 (hyf z hz))).symm
      have h : wrongL (x :: e) (y :: f) = ⟨x.path, 1⟩ :: wrongL e (y :: f) := by
        rw [wrongL, List.flatMap_cons, defOf_none (haveL_none hall), flatMap_same (fun z hz => newOf_ne (hall z hz))]; rfl
      rw [h]
      exact ih.cons _
    · rw [if_neg h1]
      by_cases h2 : slt y.path x.path = true
      · rw [if_pos h2]
        have ih := merge_perm (x :: e) f he (List.pairwise_cons.1 hf).2
        have hall : ∀ z ∈ x :: e, y.path ≠ z.path := fun z hz => by
          rcases List.mem_cons.1 hz with rfl | hz
          · exact bl_ne h2
          · exact bl_ne (bl_trans h2 (hxe z hz))
        have hn : newOf (x :: e) y = [⟨y.path, 2⟩] := by
          rw [newOf, if_neg]
          intro hm
          obtain ⟨z, hz, hzp⟩ := List.mem_map.1 hm
          exact hall z hz hzp.symm
        have h : wrongL (x :: e) (y :: f) = (x :: e).flatMap (defOf f) ++ ⟨y.path, 2⟩ :: f.flatMap (newOf (x :: e)) := by
          rw [wrongL, flatMap_same (fun z hz => defOf_ne (hall z hz)), List.flatMap_cons (f := newOf (x :: e)), hn]; rfl
        rw [h]
        exact List.perm_middle.trans (ih.cons _)
      · rw [if_neg h2]
        have hxy : x.path = y.path := by
          rcases scmp_cases x.path y.path with ⟨_, h, _⟩ | ⟨_, _, _, h⟩ | ⟨_, _, h, _⟩
          · exact absurd h h1
          · exact h
          · exact absurd h h2
        have ih := merge_perm e f (List.pairwise_cons.1 he).2 (List.pairwise_cons.1 hf).2
        have hd : defOf (y :: f) x = cmpD x y := by
          unfold defOf cmpD
          rw [hxy, haveL_head (fun z hz => (bl_ne (hyf z hz)).symm)]
        have h : wrongL (x :: e) (y :: f) = cmpD x y ++ wrongL e f := by
          rw [wrongL, List.flatMap_cons, hd, List.flatMap_cons (f := newOf (x :: e)), newOf, if_pos (List.mem_map.2 ⟨x, by simp, hxy⟩),
            flatMap_same (g := defOf f) (fun z hz => defOf_ne (by rw [← hxy]; exact bl_ne (hxe z hz))), flatMap_same (g := newOf e) (fun z hz => newOf_ne (by rw [hxy]; exact (bl_ne (hyf z hz)).symm)), List.nil_append, List.append_assoc]
          rfl
        rw [h]
        exact ih.append_left _
termination_by e f => e.length + f.length
theorem cmpD_path {x : Ent} {y : FileR} {d : Def} (h : d ∈ cmpD x y) : d.path = y.path := by
  unfold cmpD at h
  split at h
  · rw [List.mem_singleton.1 h]
  · split at h
    · rw [List.mem_singleton.1 h]
    · cases h
/-- Whatever the merge names lies behind what both begin with. -/
theorem merge_lt {p : List UInt8} : ∀ (e : List Ent) (f : List FileR), (∀ x ∈ e, Op.bytesLess p x.path = true) → (∀ y ∈ f, Op.bytesLess p y.path = true) → ∀ d ∈ mergeL e f, Op.bytesLess p d.path = true := by
  intro e f he hf d hd
  have hw : ∀ (e : List Ent) (f : List FileR), ∀ d ∈ mergeL e f, (∃ x ∈ e, d.path = x.path) ∨ ∃ y ∈ f, d.path = y.path := by
    intro e f
    induction e, f using mergeL.induct with
    | case1 => intro d hd; rw [mergeL] at hd; cases hd
    | case2 x e ih =>
      intro d hd; rw [mergeL] at hd
      rcases List.mem_cons.1 hd with rfl | hd
      · exact .inl ⟨x, by simp, rfl⟩
      · rcases ih d hd with ⟨z, hz, h⟩ | ⟨z, hz, h⟩
        · exact .inl ⟨z, by simp [hz], h⟩
        · cases hz
    | case3 y f ih =>
      intro d hd; rw [mergeL] at hd
      rcases List.mem_cons.1 hd with rfl | hd
      · exact .inr ⟨y, by simp, rfl⟩
      · rcases ih d hd with ⟨z, hz, h⟩ | ⟨z, hz, h⟩
        · cases hz
        · exact .inr ⟨z, by simp [hz], h⟩
    | case4 x e y f h1 ih =>
      intro d hd; rw [mergeL, if_pos h1] at hd
      rcases List.mem_cons.1 hd with rfl | hd
      · exact .inl ⟨x, by simp, rfl⟩
      · rcases ih d hd with ⟨z, hz, h⟩ | ⟨z, hz, h⟩
        · exact .inl ⟨z, by simp [hz], h⟩
        · exact .inr ⟨z, hz, h⟩
    | case5 x e y f h1 h2 ih =>
      intro d hd; rw [mergeL, if_neg h1, if_pos h2] at hd
      rcases List.mem_cons.1 hd with rfl | hd
      · exact .inr ⟨y, by simp, rfl⟩
      · rcases ih d hd with ⟨z, hz, h⟩ | ⟨z, hz, h⟩
        · exact .inl ⟨z, hz, h⟩
        · exact .inr ⟨z, by simp [hz], h⟩
    | case6 x e y f h1 h2 ih =>
      intro d hd; rw [mergeL, if_neg h1, if_neg h2] at hd
      rcases List.mem_append.1 hd with hd | hd
      · exact .inr ⟨y, by simp, cmpD_path hd⟩
      · rcases ih d hd with ⟨z, hz, h⟩ | ⟨z, hz, h⟩
        · exact .inl ⟨z, by simp [hz], h⟩
        · exact .inr ⟨z, by simp [hz], h⟩
  rcases hw e f d hd with ⟨x, hx, h⟩ | ⟨y, hy, h⟩
  · rw [h]; exact he x hx
  · rw [h]; exact hf y hy
theorem merge_sorted : ∀ (e : List Ent) (f : List FileR), ESort e → FSort f → (mergeL e f).Pairwise (fun a b => Op.bytesLess a.path b.path = true) := by
  intro e f
  induction e, f using mergeL.induct with
  | case1 => intro _ _; rw [mergeL]; exact List.Pairwise.nil
  | case2 x e ih =>
    intro he hf; rw [mergeL]
    have hh := List.pairwise_cons.1 he
    exact List.pairwise_cons.2 ⟨merge_lt _ _ hh.1 (fun y hy => absurd hy (by simp)), ih hh.2 hf⟩
  | case3 y f ih =>
    intro he hf; rw [mergeL]
    have hh := List.pairwise_cons.1 hf
    exact List.pairwise_cons.2 ⟨merge_lt _ _ (fun y hy => absurd hy (by simp)) hh.1, ih he hh.2⟩
  | case4 x e y f h1 ih =>
    intro he hf; rw [mergeL, if_pos h1]
    have hh := List.pairwise_cons.1 he
    have hg := List.pairwise_cons.1 hf
    refine List.pairwise_cons.2 ⟨merge_lt _ _ hh.1 (fun z hz => ?_), ih hh.2 hf⟩
    rcases List.mem_cons.1 hz with rfl | hz
    · exact h1
    · exact bl_trans h1 (hg.1 z hz)
  | case5 x e y f h1 h2 ih =>
    intro he hf; rw [mergeL, if_neg h1, if_pos h2]
    have hh := List.pairwise_cons.1 he
    have hg := List.pairwise_cons.1 hf
    refine List.pairwise_cons.2 ⟨merge_lt _ _ (fun z hz => ?_) hg.1, ih he hg.2⟩
    rcases List.mem_cons.1 hz with rfl | hz
    · exact h2
    · exact bl_trans h2 (hh.1 z hz)
  | case6 x e y f h1 h2 ih =>
    intro he hf; rw [mergeL, if_neg h1, if_neg h2]
    have hh := List.pairwise_cons.1 he
    have hg := List.pairwise_cons.1 hf
    have hxy : x.path = y.path := by
      rcases scmp_cases x.path y.path with ⟨_, h, _⟩ | ⟨_, _, _, h⟩ | ⟨_, _, h, _⟩
      · exact absurd h h1
      · exact h
      · exact absurd h h2
    refine List.pairwise_append.2 ⟨?_, ih hh.2 hg.2, fun a ha b hb => ?_⟩
    · unfold cmpD
      split
      · exact List.pairwise_singleton _ _
      · split
        · exact List.pairwise_singleton _ _
        · exact List.Pairwise.nil
    · rw [cmpD_path ha]
      exact merge_lt _ _ (fun z hz => by rw [← hxy]; exact hh.1 z hz) hg.1 b hb
/-- A sorted list with distinct paths is the only one in its order. -/
theorem perm_sorted : ∀ {a b : List Def}, a.Perm b → a.Pairwise (fun x y => Op.bytesLess y.path x.path = false) → b.Pairwise (fun x y => Op.bytesLess x.path y.path = true) → a = b
  | [], b, h, _, _ => (List.Perm.nil_eq h)
  | x :: a, [], h, _, _ => absurd h.length_eq (by simp)
  | x :: a, y :: b, h, ha, hb => by
    have h1 := List.pairwise_cons.1 ha
    have h2 := List.pairwise_cons.1 hb
    have hxy : x = y := by
      have hx : x ∈ y :: b := h.mem_iff.1 (by simp)
      have hy : y ∈ x :: a := h.mem_iff.2 (by simp)
      rcases List.mem_cons.1 hx with e | hx
      · exact e
      · rcases List.mem_cons.1 hy with e | hy
        · exact e.symm
        · have k1 := h2.1 x hx
          have k2 := h1.1 y hy
          rw [k1] at k2; cases k2
    subst hxy
    rw [perm_sorted (List.Perm.cons_inv h) h1.2 h2.2]
theorem ents_sorted {E : List Ent} (h : entsFault E = 0) : ESort E := by
  unfold entsFault at h
  split at h
  · omega
  · refine pairwise_of_next (fun a b : Ent => Op.bytesLess a.path b.path = true) (fun _ _ _ h k => bl_trans h k) fun i hi => ?_
    have hf := firstF_all h (i + 1) hi
    unfold entF at hf
    rw [getD_at _ _ hi, Nat.add_sub_cancel, getD_at _ _ (show i < E.length by omega)] at hf
    split at hf
    · omega
    · split at hf
      · omega
      · split at hf
        · omega
        · split at hf
          · omega
          · rename_i hn
            have h2 : ¬ sle E[i + 1].path E[i].path = true := fun e => hn ⟨by omega, e⟩
            unfold sle at h2
            rcases scmp_cases E[i].path E[i + 1].path with ⟨_, h, _⟩ | ⟨_, _, _, h⟩ | ⟨_, _, h, _⟩
            · exact h
            · rw [h] at h2; simp at h2
            · rw [h] at h2; simp at h2
/-- What 'Wrong' of care answers is the merge. -/
theorem wrong_merge {n : List UInt8} {E : List Ent} {F : List FileR} {out : List Def} (h : wrFault n E F = 0) (hp : out.Perm (wrongL E F)) (hs : out.Pairwise (fun x y => Op.bytesLess y.path x.path = false)) : out = mergeL E F := by
  unfold wrFault at h
  split at h
  · rename_i hpk
    unfold packFault at hpk
    split at hpk
    · omega
    · have he := ents_sorted hpk
      have hf := files_sorted h
      exact perm_sorted (hp.trans (merge_perm E F he hf)) hs (merge_sorted E F he hf)
  · rename_i hpk; exact absurd h hpk
end Go.Proofs.YtbafnemcdhdagaaDoor
