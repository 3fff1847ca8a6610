/-
  A row of rows that the call owns (elements of one cell): reading an element, appending to one, keeping it over stores elsewhere. Over any program.
-/
import Derived.Test.YtnkdcmibafjplaaGreatDoorNest
import Derived.Test.YtnkdcmibafjplaaGreatDoorBlkR
namespace Go.Proofs.YtnkdcmibafjplaaGreatDoor
open Go.RowKit
set_option linter.unusedVariables false

section
variable {α : Type} {inn : α → List Value} {E E2 : TypeId} {B : Nat} {w w' : World} {v : Value} {l : List α}
def Nest1 (inn : α → List Value) (E E2 : TypeId) (B : Nat) (w : World) (v : Value) (l : List α) : Prop := Nest (fun _ => []) inn 1 E E2 B w v l
theorem zip_snd {β : Type} : ∀ (l : List α) (vs : List β), vs.length = l.length → ((l.zip vs).flatMap fun p => ([] : List β) ++ [p.2]) = vs
  | [], [], _ => rfl
  | a :: l, u :: vs, h => by
    rw [List.zip_cons_cons, List.flatMap_cons, zip_snd l vs (by simpa using h)]; rfl
  | [], u :: vs, h => by simp at h
  | a :: l, [], h => by simp at h
theorem Nest1.open1 (h : Nest1 inn E E2 B w v l) : ∃ vs : List Value, vs.length = l.length ∧ w.ownsRow B E 1 v l.length vs ∧ (∀ (i : Nat) (h : i < l.length) (h' : i < vs.length), w.ownsRow B E2 1 vs[i] (inn l[i]).length (inn l[i])) ∧
    (∀ (i j : Nat) (hi : i < vs.length) (hj : j < vs.length), i ≠ j → ∀ g, vs[i].ownBlock = some g → vs[j].ownBlock ≠ some g) := by
  obtain ⟨vs, h1, h2, h3, h4⟩ := h
  exact ⟨vs, h1, by rw [zip_snd l vs h1] at h2; exact h2, h3, h4⟩
theorem Nest1.mk1 {vs : List Value} (h1 : vs.length = l.length) (h2 : w.ownsRow B E 1 v l.length vs) (h3 : ∀ (i : Nat) (h : i < l.length) (h' : i < vs.length), w.ownsRow B E2 1 vs[i] (inn l[i]).length (inn l[i]))
    (h4 : ∀ (i j : Nat) (hi : i < vs.length) (hj : j < vs.length), i ≠ j → ∀ g, vs[i].ownBlock = some g → vs[j].ownBlock ≠ some g) : Nest1 inn E E2 B w v l :=
  ⟨vs, h1, by rw [zip_snd l vs h1]; exact h2, h3, h4⟩
theorem Nest1.form (h : Nest1 inn E E2 B w v l) : ∃ A c, v = .slice A l.length c ∧ l.length ≤ c ∧ c ≤ maxLen := by
  obtain ⟨vs, h1, h2, _⟩ := h.open1
  obtain ⟨A, c, h1, h2, h3, _⟩ := own_form h2
  exact ⟨A, c, h1, h2, h3⟩
theorem Nest1.below (h : Nest1 inn E E2 B w v l) (hb : Below w.heap.size w w') : Nest1 inn E E2 B w' v l :=
  Nest.grown h ⟨hb.os, hb.tape, hb.output, hb.size, fun k hk _ => hb.block k hk⟩
/-- Kept over what touches only a block of another type. -/
theorem Nest1.other {g : Nat} {t : TypeId} {cs : List Value} (h : Nest1 inn E E2 B w v l) (hk : Blk w g t cs) (hE : t ≠ E) (hE2 : t ≠ E2) (hg : w.grownBy w' (some g)) : Nest1 inn E E2 B w' v l := by
  obtain ⟨vs, h1, h2, h3, h4⟩ := h.open1
  have ne : ∀ {u : Value} {n : Nat} {xs : List Value} {e : TypeId}, t ≠ e → w.ownsRow B e 1 u n xs → u.ownBlock = none ∨ u.ownBlock ≠ some g := fun {u n xs e} hte hu => by
    by_cases hn : u.ownBlock = none
    · exact .inl hn
    · right
      intro e1
      obtain ⟨cur, hc⟩ := own_cells hu e1
      have := (show w.heap[g]? = _ from hk).symm.trans hc
      simp only [Option.some.injEq, Obj.cells.injEq] at this
      exact hte this.2.1
  exact Nest1.mk1 h1 (h2.kept hg (ne hE h2)) (fun i a b => (h3 i a b).kept hg (ne hE2 (h3 i a b))) h4
/-- Element k: the cell of the outer row, and the row that it owns. -/
theorem Nest1.at_ (h : Nest1 inn E E2 B w v l) {k : Nat} (hk : k < l.length) :
    ∃ G c u, v = .slice (some ⟨G, 0, none⟩) l.length c ∧ B ≤ G ∧ G < w.heap.size ∧ w.cell? ⟨G, k, none⟩ = some u ∧ w.frozen? ⟨G, k, none⟩ = false ∧ w.ownsRow B E2 1 u (inn l[k]).length (inn l[k]) := by
  obtain ⟨vs, h1, h2, h3, h4⟩ := h.open1
  have hkv : k < vs.length := by omega
  rcases h2.2 with ⟨_, hn⟩ | ⟨G, cap, cur, e1, hb, hh, hnc, hm, hsz, ht⟩
  · omega
  · refine ⟨G, cap, vs[k], e1, hb, (h2.lt G (by rw [e1]; rfl)).2, ?_, ?_, h3 k hk hkv⟩
    · have hc := h2.cells (g := G) (by rw [e1]; rfl) k vs[k] (List.getElem?_eq_getElem hkv)
      rwa [show (⟨G, 0, none⟩ : Addr).add k = ⟨G, k, none⟩ from by unfold Addr.add; split <;> simp_all] at hc
    · simp only [World.frozen?, hh, Bool.and_eq_false_iff, decide_eq_false_iff_not]
      omega
/-- An append to element k, and its store. -/
theorem Nest1.put (hE : E ≠ E2) (h : Nest1 inn E E2 B w v l) {k : Nat} (hk : k < l.length) {G c : Nat} {u u' : Value} {a : α} {wA wz : World} (hv : v = .slice (some ⟨G, 0, none⟩) l.length c) (hu : w.cell? ⟨G, k, none⟩ = some u)
    (hA : w.grownBy wA none) (hw : wA.grownBy w' u.ownBlock) (ho : w'.ownsRow B E2 1 u' (inn a).length (inn a)) (hloc : ∀ g, u'.ownBlock = some g → u.ownBlock = some g ∨ w.heap.size ≤ g) (hz : wz = w'.setCell ⟨G, k, none⟩ u') :
    Nest1 inn E E2 B wz v (l.set k a) ∧ w'.grownBy wz (some G) ∧ w'.frozen? ⟨G, k, none⟩ = false ∧ w'.cell? ⟨G, k, none⟩ = some u := by
  subst hz
  obtain ⟨vs, h1, h2, h3, h4⟩ := h.open1
  have hkv : k < vs.length := by omega
  have huv : vs[k] = u := by
    have hc := h2.cells (g := G) (by rw [hv]; rfl) k vs[k] (List.getElem?_eq_getElem hkv)
    rw [show (⟨G, 0, none⟩ : Addr).add k = ⟨G, k, none⟩ from by unfold Addr.add; split <;> simp_all, hu] at hc
    exact (Option.some.inj hc).symm
  have h2A : wA.ownsRow B E 1 v l.length vs := h2.kept hA (by cases hv : v.ownBlock <;> simp)
  have h3A : ∀ (i : Nat) (h : i < l.length) (h' : i < vs.length), wA.ownsRow B E2 1 vs[i] (inn l[i]).length (inn l[i]) := fun i a b => (h3 i a b).kept hA (by cases hv : vs[i].ownBlock <;> simp)
  have hu3 := h3A k hk hkv
  rw [huv] at hu3
  have hne : v.ownBlock = none ∨ v.ownBlock ≠ u.ownBlock := by
    by_cases hn : v.ownBlock = none
    · exact .inl hn
    · right
      intro e
      obtain ⟨g, hg⟩ := Option.ne_none_iff_exists'.1 hn
      exact own_ne h2A hu3 hE hg (by rw [← e]; exact hg)
  have h2' := h2A.kept hw hne
  have hgs : ∀ (x : Value), w'.grownBy (w'.setCell ⟨G, k, none⟩ x) (some G) := fun x => ⟨rfl, rfl, rfl, by simp, fun j _ hj => heap_setCell_other w' _ j x (fun e => hj (by rw [e]))⟩
  have hGb : v.ownBlock = some G := by rw [hv]; rfl
  have offG : ∀ {y : Value} {n : Nat} {xs : List Value}, w'.ownsRow B E2 1 y n xs → (w'.setCell ⟨G, k, none⟩ u').ownsRow B E2 1 y n xs := fun {y n xs} hy => by
    refine hy.kept (hgs u') ?_
    by_cases hn : y.ownBlock = none
    · exact .inl hn
    · right
      intro e
      exact own_ne h2' hy hE hGb e
  refine ⟨Nest1.mk1 (vs := vs.set k u') (by simp [h1]) ?_ (fun i hi hi' => ?_) (fun i j hi hj hij g hg => ?_), hgs u', ?_, ?_⟩
  · rw [List.length_set, hv]
    rw [hv] at h2'
    have hS : (w'.setCell ⟨G, k, none⟩ u').ownsRow B E 1 (.slice (some ⟨G, 0, none⟩) l.length c) l.length (vs.set k u') := by
      refine ⟨by rw [List.length_set]; exact h2'.1, ?_⟩
      rcases h2'.2 with ⟨h1, _⟩ | ⟨g', cap, cur, h1, hb, hh, h2, h3, h4, h5⟩
      · cases h1
      · injection h1 with h1 _ h6
        injection h1 with h1
        injection h1 with h1
        subst h1 h6
        refine .inr ⟨G, c, cur.setIfInBounds k u', rfl, hb, ?_, h2, h3, by simp [h4], ?_⟩
        · simp [World.setCell, Array.getElem?_modify, hh]
        · rw [Array.toList_setIfInBounds, List.take_set, h5]
    exact hS
  · have hil : i < l.length := by simpa using hi
    have hiv : i < vs.length := by simpa using hi'
    by_cases hik : k = i
    · subst hik
      rw [List.getElem_set_self, List.getElem_set_self]
      exact offG ho
    · rw [List.getElem_set_ne hik, List.getElem_set_ne hik]
      refine offG ((h3A i hil hiv).kept hw ?_)
      by_cases hn : vs[i].ownBlock = none
      · exact .inl hn
      · right
        intro e
        obtain ⟨g, hg⟩ := Option.ne_none_iff_exists'.1 hn
        exact h4 i k hiv hkv (fun e => hik e.symm) g hg (by rw [huv, ← e]; exact hg)
  · have hiv : i < vs.length := by simpa using hi
    have hjv : j < vs.length := by simpa using hj
    have hlt : ∀ (m : Nat) (hm : m < vs.length) (g : Nat), vs[m].ownBlock = some g → g < w.heap.size := fun m hm g hg => ((h3 m (by omega) hm).lt g hg).2
    by_cases hik : k = i
    · subst hik
      rw [List.getElem_set_self] at hg
      rw [List.getElem_set_ne hij]
      rcases hloc g hg with h | h
      · exact h4 k j hkv hjv hij g (by rw [huv]; exact h)
      · intro e; have := hlt j hjv g e; omega
    · rw [List.getElem_set_ne hik] at hg
      by_cases hjk : k = j
      · subst hjk
        rw [List.getElem_set_self]
        intro e
        rcases hloc g e with h | h
        · exact h4 i k hiv hkv hij g hg (by rw [huv]; exact h)
        · have := hlt i hiv g hg; omega
      · rw [List.getElem_set_ne hjk]
        exact h4 i j hiv hjv hij g hg
  · rcases h2'.2 with ⟨e1, _⟩ | ⟨g', cap, cur, e1, hb, hh, _⟩
    · rw [e1] at hv; cases hv
    · rw [hv] at e1
      injection e1 with e1 _ _
      injection e1 with e1
      injection e1 with e1
      subst e1
      simp only [World.frozen?, hh, Bool.and_eq_false_iff, decide_eq_false_iff_not]
      omega
  · have hc := h2'.cells (g := G) hGb k vs[k] (List.getElem?_eq_getElem hkv)
    rwa [show (⟨G, 0, none⟩ : Addr).add k = ⟨G, k, none⟩ from by unfold Addr.add; split <;> simp_all, huv] at hc
end
end Go.Proofs.YtnkdcmibafjplaaGreatDoor
