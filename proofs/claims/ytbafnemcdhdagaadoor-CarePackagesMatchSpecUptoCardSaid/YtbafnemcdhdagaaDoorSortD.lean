/-
  slices.SortFunc at defects, by their paths.
-/
import Derived.Test.YtbafnemcdhdagaaDoorProg
import Derived.Test.YtbafnemcdhdagaaDoorWrongP
import Derived.Test.YtbafnemcdhdagaaDoorDefSort
import Derived.Test.YtbafnemcdhdagaaDoorVCount
import Derived.Test.YtbafnemcdhdagaaDoorCopies
import Derived.Shelf.SlSortCmp.NoneTotal
import Derived.Sort.OwnSorted
namespace Go.Proofs.YtbafnemcdhdagaaDoor
open Go.RowKit Go.Sort
set_option linter.unusedVariables false
set_option linter.unusedSimpArgs false

theorem flat_get : ∀ (L : List Def) (t : Nat), t < L.length * 2 → (L.flatMap defCells)[t]? = (defCells (L.getD (t / 2) default))[t % 2]?
  | [], t, h => by simp at h
  | d :: L, 0, h => rfl
  | d :: L, 1, h => rfl
  | d :: L, t + 2, h => by
    have ih := flat_get L t (by simp at h; omega)
    rw [show (t + 2) / 2 = t / 2 + 1 by omega, show (t + 2) % 2 = t % 2 by omega, List.getD_cons_succ, ← ih]
    rfl
theorem flatK_flat (d : Array Def) : flatK defCells 2 d = (d.toList.flatMap defCells).toArray := by
  have hlen : (d.toList.flatMap defCells).length = d.size * 2 := by
    rw [List.length_flatMap, ← Array.length_toList]
    generalize d.toList = l
    induction l with
    | nil => rfl
    | cons a l ih => rw [List.map_cons, List.sum_cons, ih]; simp [defCells]; omega
  refine Array.ext (by rw [size_flatK]; simp [hlen]) fun t h1 h2 => ?_
  rw [size_flatK] at h1
  have h := get_flatK defCells 2 d t h1
  rw [getElem!_pos _ t (by rw [size_flatK]; exact h1)] at h
  rw [h]
  have hg := flat_get d.toList t (by rw [Array.length_toList]; exact h1)
  have ht : t / 2 < d.size := by omega
  have hd : d.toList.getD (t / 2) default = d[t / 2]! := by
    rw [getElem!_pos d (t / 2) ht, List.getD_eq_getElem?_getD, List.getElem?_eq_getElem (by simpa using ht)]; rfl
  rw [hd] at hg
  generalize d[t / 2]! = y at *
  have hm : t % 2 < (defCells y).length := by show t % 2 < 2; omega
  rw [getElem!_pos (defCells y) (t % 2) hm]
  rw [List.getElem?_eq_getElem hm, List.getElem?_eq_getElem (by rw [hlen]; exact h1)] at hg
  injection hg with hg
  exact hg.symm
theorem holds_id {w : World} {g : Nat} {cur : Array Value} {e : TypeId} {xs : List Value} (hb : w.heap[g]? = some (.cells cur e (0, 0))) (ht : cur.toList.take xs.length = xs) : Holds id w g 0 xs.toArray := by
  intro j hj
  have hj' : j < xs.length := by simpa using hj
  refine ⟨?_, by simp [World.frozen?, hb]⟩
  have h1 : (cur.toList.take xs.length)[j]? = xs[j]? := by rw [ht]
  rw [List.getElem?_take_of_lt hj'] at h1
  simp only [World.cell?, hb, Nat.zero_add]
  simp only [Option.isSome_none, Bool.false_eq_true, if_false]
  rw [← Array.getElem?_toList, h1]
  simp [hj']
theorem heap_sortId {w : World} {g n : Nat} {os : Array Obj} {cur : Array Value} {e : TypeId} {fr : Nat × Nat} (d : Array Value) (hb : w.heap[g]? = some (.cells cur e fr)) :
    (grow (putRow id (Sort.ahead w n) g 0 d) os).heap[g]? = some (.cells (putCells id 0 d cur) e fr) := by
  have hg : g < w.heap.size := (Array.getElem?_eq_some_iff.1 hb).1
  rw [heap_grow_old _ _ (by simpa using hg)]
  simp [putRow, mapBlock, Sort.ahead, Array.getElem?_modify, hb, onCells]
theorem grownBy_sortId {w : World} {g n : Nat} {os : Array Obj} (d : Array Value) : w.grownBy (grow (putRow id (Sort.ahead w n) g 0 d) os) (some g) := by
  refine ⟨rfl, rfl, rfl, by simp, fun k hk hne => ?_⟩
  rw [heap_grow_old _ _ (by simpa using hk)]
  have : g ≠ k := fun e => hne (by rw [e])
  simp [putRow, mapBlock, Sort.ahead, Array.getElem?_modify, this]
theorem take_putId (cur : Array Value) (ts : List Value) (h : ts.length ≤ cur.size) : (putCells id 0 ts.toArray cur).toList.take ts.length = ts := by
  apply List.ext_getElem?
  intro j
  by_cases hj : j < ts.length
  · rw [List.getElem?_take_of_lt hj, Array.getElem?_toList]
    simp [putCells, hj, show j < cur.size by omega]
  · rw [List.getElem?_take_eq_none (by omega), List.getElem?_eq_none (by omega)]
def dCmp (x y : Def) : Int := scmp x.path y.path
theorem dLt (x y : Def) : ltOf dCmp x y = Op.bytesLess x.path y.path := by
  unfold ltOf dCmp
  rcases scmp_cases x.path y.path with ⟨h, h1, _⟩ | ⟨h, h1, _⟩ | ⟨h, h1, _⟩ <;> rw [h, h1] <;> rfl
theorem dSwo : SWO (ltOf dCmp) where
  irrefl x := by rw [dLt]; exact bl_irr _
  trans x y z h1 h2 := by rw [dLt] at *; exact bl_trans h1 h2
  ntrans x y z h1 h2 := by
    rw [dLt] at *
    cases h3 : Op.bytesLess x.path z.path with
    | false => rfl
    | true =>
      rcases scmp_cases x.path y.path with ⟨_, h, _⟩ | ⟨_, _, _, h⟩ | ⟨_, _, h, _⟩
      · rw [h] at h1; cases h1
      · rw [h, h2] at h3; cases h3
      · rw [bl_trans h h3] at h2; cases h2
theorem agg_def (w : World) : (isAgg 66).run Tryd.prog w = .ok true w := by kernel_rfl
theorem size_def (w : World) : (Go.sizeOf 66).run Tryd.prog w = .ok 2 w := by kernel_rfl
theorem dClosure (x y : Def) (W : World) : Calls Tryd.prog 75 #[.agg #[.string (bstr x.path), .int .i64 x.kind], .agg #[.string (bstr y.path), .int .i64 y.kind]] W fun e w' => e = .returned (.int .i64 (dCmp x y)) ∧ ∃ q os', w' = grow (W.drewN q) os' := by
  have hcon := fun W' => strCmp_any x.path y.path W'
  change ∀ W', Calls Tryd.prog _ _ _ _ at hcon
  unfold dCmp
  generalize scmp x.path y.path = r at hcon ⊢
  go_enter Tryd.func75, Tryd.ntmps75
  go_wp2_with (go_at_call 76; refine (hcon _).mono ?_; rintro e w' ⟨rfl, rfl⟩)
  go_ret
  exact ⟨rfl, 0, _, by rw [alloc_eq_grow, alloc_eq_grow, grow_grow]; rfl⟩
theorem sortD_any (v : Value) (L : List Def) (B : Nat) (w : World) (hO : w.ownsRow B 66 2 v L.length (L.flatMap defCells)) (hL : L.length ≤ 1000) (hp : ∀ d ∈ L, d.path.length ≤ maxLen ∧ (Lit.int .i64 d.kind).wf = true) :
    Calls Tryd.prog 74 #[v, .func (.func 75) #[] #[]] w fun e w' =>
      e = .returned (.tuple #[]) ∧ ∃ out : List Def, out.Perm L ∧ out.Pairwise (fun x y => Op.bytesLess y.path x.path = false) ∧ (Rp.sl defRp).ok w' (· < w'.heap.size) [v] out ∧ Below B w w' := by
  have hO' := hO
  obtain ⟨hlen, hO⟩ := hO
  by_cases h0 : L.length = 0
  · obtain rfl : L = [] := List.length_eq_zero_iff.1 h0
    have hv : ∃ p c, v = .slice p 0 c := by
      rcases hO with ⟨rfl, _⟩ | ⟨g, cap, cur, rfl, _⟩
      · exact ⟨_, _, rfl⟩
      · exact ⟨_, _, rfl⟩
    obtain ⟨p, c, rfl⟩ := hv
    have hn := AnyF.slices_SortFunc_none defSort p c (.func (.func 75) #[] #[]) w
    refine Calls.mono hn ?_
    rintro e w' ⟨rfl, rfl⟩
    exact ⟨rfl, [], List.Perm.refl _, List.Pairwise.nil, Rp.of_ownN (R := defRp) (by decide) (fun _ => rfl) hO' (fun g hg => (hO'.lt g hg).2) (fun s hs => absurd hs (by simp)), Below.refl _ _⟩
  · rcases hO with ⟨_, h⟩ | ⟨g, cap, cur, rfl, hBg, hg, hnc, hcm, hcs, htk⟩
    · exact absurd h h0
    have hgl : g < w.heap.size := (Array.getElem?_eq_some_iff.1 hg).1
    have hxl : (L.flatMap defCells).length = L.length * 2 := hlen
    have hH : HoldsK defCells 2 w g 0 L.toArray := by
      unfold HoldsK
      rw [flatK_flat]
      exact holds_id hg (by rw [hxl]; exact htk)
    have hcmp : CmpLays Tryd.prog 75 #[] defCells 2 dCmp g 0 L.toArray.size w := fun _ _ _ _ x y => dClosure x y _
    have eg : ∀ args w, (callFunc 75 args).run Tryd.prog w = .ok (.enter 75 args) w := enters_of Tryd.func75 (by kernel_rfl) rfl
    have hcon := AnyQ.slices_SortFunc defSort 2 agg_def size_def defCells (fun _ => rfl) (fun x v hv => by simp [defCells] at hv; rcases hv with rfl | rfl <;> rfl) dCmp dSwo 75 #[] g 0 cap L.toArray w eg hcmp hH hgl (by simp; omega)
    refine Calls.mono (show Calls Tryd.prog 74 #[.slice (some ⟨g, 0, none⟩) L.length cap, .func (.func 75) #[] #[]] w _ from hcon) ?_
    rintro e w' ⟨rfl, d', n, os, ⟨hs, _, hperm⟩, hsort, rfl⟩
    have hs' : d'.toList.length = L.length := by simpa using hs
    have hpm : d'.toList.Perm L := by
      have := hperm
      simpa [Array.extract_eq_self_of_le, hs] using this
    refine ⟨rfl, d'.toList, hpm, ?_, ?_, ?_⟩
    · rw [List.pairwise_iff_getElem]
      intro i j hi hj hij
      have := hsort i j (Nat.zero_le _) hij (by rw [hs'] at hj; simpa using hj)
      rw [dLt] at this
      rw [getElem!_pos d' i (by simpa using hi), getElem!_pos d' j (by simpa using hj)] at this
      simpa using this
    · have hl2 : (d'.toList.flatMap defCells).length = L.length * 2 := by
        have h := congrArg Array.size (flatK_flat d')
        rw [size_flatK] at h
        simp only [List.size_toArray] at h
        rw [← h, hs]; simp
      have hown : (sortWorldK defCells 2 w g 0 n d' os).ownsRow B 66 2 (.slice (some ⟨g, 0, none⟩) L.length cap) L.length (d'.toList.flatMap defCells) := by
        unfold sortWorldK putRowK
        rw [flatK_flat]
        exact ⟨hl2, .inr ⟨g, cap, _, rfl, hBg, heap_sortId _ hg, hnc, hcm, by simp [putCells, hcs], by rw [← hl2]; exact take_putId cur _ (by rw [hl2, hcs]; exact Nat.mul_le_mul_right _ hnc)⟩⟩
      have e : L.length = d'.toList.length := hs'.symm
      rw [e] at hown ⊢
      exact Rp.of_ownN (R := defRp) (by decide) (fun _ => rfl) hown (fun j hj => (hown.lt j hj).2) (fun s hs => def_mk (hp s (hpm.mem_iff.1 hs)).1 (hp s (hpm.mem_iff.1 hs)).2)
    · unfold sortWorldK putRowK
      exact (Below.refl B w).grown (grownBy_sortId _) (Nat.le_of_lt (Nat.lt_of_le_of_lt hBg hgl)) (fun k e => by injection e with e; omega)
end Go.Proofs.YtbafnemcdhdagaaDoor
