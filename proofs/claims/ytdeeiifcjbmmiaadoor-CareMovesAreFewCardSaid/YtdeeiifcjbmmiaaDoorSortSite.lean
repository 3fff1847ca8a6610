/-
  slices.Clone and slices.SortStableFunc at sites.
-/
import Derived.Test.YtdeeiifcjbmmiaaDoorProg
import Derived.Test.YtdeeiifcjbmmiaaDoorPlD
import Derived.Test.YtdeeiifcjbmmiaaDoorStabSSite
import Derived.Sort.OwnSorted
import Derived.Laws.OwnMore
namespace Go.Proofs.YtdeeiifcjbmmiaaDoor
open Go.RowKit Go.Sort
set_option linter.unusedVariables false
set_option linter.unusedSimpArgs false

theorem siteC_info : (Tryd.prog.info? 39).map (fun i => (i.zero, i.size, i.bytes)) = some (some (.agg #[.string ⟨#[]⟩, .int .i64 0, .int .i64 0]), 3, 32) := by kernel_rfl
theorem site_flat (l : List Site) (k : Nat) (h : k < l.length) : ((l.flatMap siteCells).drop (k * 3)).take 3 = siteCells l[k] := flat_at (f := siteCells) (sz := 3) (fun _ => rfl) l k h
theorem site_flat_len (l : List Site) : (l.flatMap siteCells).length = l.length * 3 := flat_len (f := siteCells) (sz := 3) (fun _ => rfl) l
theorem site_flat_at (l : List Site) (k j : Nat) (h : k < l.length) (hj : j < 3) : (l.flatMap siteCells)[k * 3 + j]? = (siteCells l[k])[j]? := by
  rw [← site_flat l k h, List.getElem?_take_of_lt hj, List.getElem?_drop]
set_option maxRecDepth 100000 in
set_option maxHeartbeats 1000000 in
theorem cloneSite_some (ad : Addr) (c : Nat) (l : List Site) (w : World) (h : (Rp.sl siteRp).ok w (· < w.heap.size) [.slice (some ad) l.length c] l) (hm : l.length ≤ 100) :
    Calls Tryd.prog 15 #[.slice (some ad) l.length c] w fun e w' => ∃ v, e = .returned v ∧ w'.ownsRow w.heap.size 39 3 v l.length (l.flatMap siteCells) ∧ Below w.heap.size w w' := by
  have hq : ∀ W : World, (binOp .eql 22 (.slice (some ad) l.length c) (.slice none 0 0)).run Tryd.prog W = .ok (.bool false) W := fun W => Lib.run_eql_slice_nil (P := Tryd.prog) W 22 39 (some ad) l.length c 0 0 Tryd.underlying22
  have ho : (w.alloc (.cells #[] 39)).ownsRow w.heap.size 39 3 (.slice (some ⟨w.heap.size, 0, none⟩) 0 0) 0 [] := World.ownsRow_lit (size := 3) w #[] 0 (Nat.le_refl _) (by unfold maxLen; omega) rfl
  have HO := Lib.hid ho
  have hal := (Below.refl w.heap.size w).alloc (Nat.le_refl _) (.cells #[] 39)
  have HAL := Lib.hid hal
  have hcells : ∀ j u, (l.flatMap siteCells)[j]? = some u → (w.alloc (.cells #[] 39)).cell? (ad.add j) = some u := by
    intro j u hj
    have hjl : j < l.length * 3 := by rw [← site_flat_len]; exact (List.getElem?_eq_some_iff.1 hj).1
    obtain ⟨ad', c', e1, hb, c0, c1, c2, _⟩ := site_at (Rp.below _ h hal) (show j / 3 < l.length by omega)
    injection e1 with e1 _ _
    injection e1 with e1
    subst e1
    have e2 := site_flat_at l (j / 3) (j % 3) (by omega) (by omega)
    rw [show j / 3 * 3 + j % 3 = j by omega, hj] at e2
    have hadd : ∀ i, 0 < i → ad.add (j / 3 * 3 + i) = ⟨(ad.add (j / 3 * 3)).block, (ad.add (j / 3 * 3)).off + i, none⟩ := fun i hi => add_fld ad (j / 3 * 3) i hi
    rcases (show j % 3 = 0 ∨ j % 3 = 1 ∨ j % 3 = 2 by omega) with h0 | h0 | h0
    · rw [h0] at e2
      rw [show ad.add j = ad.add (j / 3 * 3) by congr 1; omega, c0]; exact e2.symm
    · rw [h0] at e2
      rw [show ad.add j = ad.add (j / 3 * 3 + 1) by congr 1; omega, hadd 1 (by decide), c1]; exact e2.symm
    · rw [h0] at e2
      rw [show ad.add j = ad.add (j / 3 * 3 + 2) by congr 1; omega, hadd 2 (by decide), c2]; exact e2.symm
  have HC := Lib.hid hcells
  have hfl : (l.flatMap siteCells).length = l.length * 3 := site_flat_len l
  have HFL := Lib.hid hfl
  have H1 : Hid (∀ u ∈ l.flatMap siteCells, u.oneCell' = true) := Lib.hid (fun u hu => by obtain ⟨x, _, hx⟩ := List.mem_flatMap.1 hu; simp [siteCells] at hx; rcases hx with rfl | rfl | rfl <;> rfl)
  obtain ⟨i, hi, hz, hi1, hi2⟩ := info_parts siteC_info
  clear ho hal h hfl hcells
  go_enter Tryd.func15, Tryd.ntmps15
  go_wp2_with (at_builtin; refine wpList_append_own _ rfl (.tmp 5) (.tmp 6) 22 rfl w.heap.size 39 i (.agg #[.string ⟨#[]⟩, .int .i64 0, .int .i64 0]) 3 32 Tryd.underlying22 hi hz hi1 hi2 rfl (by decide) (.slice (some ⟨w.heap.size, 0, none⟩) 0 0) 0 [] rfl HO.out ad l.length c (l.flatMap siteCells) rfl HFL.out HC.out H1.out (by unfold maxLen; omega) (by omega) (by simp) ?_; intro v' w' hown hgr _)
  go_ret
  have h2 := hown
  simp only [Nat.zero_add, List.nil_append] at h2
  exact ⟨_, rfl, h2, HAL.out.grown hgr (by simp) (fun k e => by cases e; exact Nat.le_refl _)⟩
theorem cloneSite_any (v : Value) (l : List Site) (w : World) (h : (Rp.sl siteRp).ok w (· < w.heap.size) [v] l) (hm : l.length ≤ 100) :
    Calls Tryd.prog 15 #[v] w fun e w' => ∃ v', e = .returned v' ∧ w'.ownsRow w.heap.size 39 3 v' l.length (l.flatMap siteCells) ∧ Below w.heap.size w w' := by
  obtain ⟨A, c, rfl, hl, hc, h0⟩ := Rp.sl_open h
  cases A with
  | some ad => exact cloneSite_some ad c l w h hm
  | none =>
    have hc0 := h0 rfl
    have hl0 : l = [] := List.eq_nil_of_length_eq_zero (by omega)
    subst hl0 hc0
    clear h hl hc h0 hm
    have hq : ∀ W : World, (binOp .eql 22 (.slice none 0 0) (.slice none 0 0)).run Tryd.prog W = .ok (.bool true) W := fun W => by kernel_rfl
    go_enter Tryd.func15, Tryd.ntmps15
    go_wp2_with fail
    go_ret
    exact ⟨_, rfl, World.ownsRow_nil _ _ _ _, Below.refl _ _⟩
section
variable {α : Type} [Inhabited α] {f : α → List Value} {k : Nat}
theorem flatK_list (hk : ∀ a, (f a).length = k) (d : Array α) : flatK f k d = (d.toList.flatMap f).toArray := by
  have hlen : (d.toList.flatMap f).length = d.size * k := by rw [flat_len hk, Array.length_toList]
  refine Array.ext (by rw [size_flatK]; simp [hlen]) fun t h1 h2 => ?_
  rw [size_flatK] at h1
  have hk0 : 0 < k := by
    rcases Nat.eq_zero_or_pos k with h | h
    · rw [h, Nat.mul_zero] at h1; omega
    · exact h
  have h := get_flatK f k d t h1
  rw [getElem!_pos _ t (by rw [size_flatK]; exact h1)] at h
  rw [h]
  have ht : t / k < d.size := Nat.div_lt_of_lt_mul (by rw [Nat.mul_comm]; exact h1)
  have hm : t % k < k := Nat.mod_lt _ hk0
  have htk : t / k * k + t % k = t := by rw [Nat.mul_comm]; exact Nat.div_add_mod _ _
  have hfa := flat_at hk d.toList (t / k) (by simpa using ht)
  have hg : (d.toList.flatMap f)[t]? = (f (d.toList[t / k]'(by simpa using ht)))[t % k]? := by
    rw [← hfa, List.getElem?_take_of_lt hm, List.getElem?_drop, htk]
  have hd : d[t / k]! = d.toList[t / k]'(by simpa using ht) := by rw [getElem!_pos d _ ht]; simp
  rw [← hd] at hg
  have hm2 : t % k < (f d[t / k]!).length := by rw [hk]; exact hm
  rw [getElem!_pos (f d[t / k]!) (t % k) hm2]
  rw [List.getElem?_eq_getElem hm2, List.getElem?_eq_getElem (by rw [hlen]; exact h1)] at hg
  injection hg with hg
  exact hg.symm
theorem holds_idK {w : World} {g : Nat} {cur : Array Value} {e : TypeId} {xs : List Value} (hb : w.heap[g]? = some (.cells cur e (0, 0))) (ht : cur.toList.take xs.length = xs) : Holds id w g 0 xs.toArray := by
  intro j hj
  have hj' : j < xs.length := by simpa using hj
  refine ⟨?_, by simp [World.frozen?, hb]⟩
  have h1 : (cur.toList.take xs.length)[j]? = xs[j]? := by rw [ht]
  rw [List.getElem?_take_of_lt hj'] at h1
  simp only [World.cell?, hb, Nat.zero_add]
  simp only [Option.isSome_none, Bool.false_eq_true, if_false]
  rw [← Array.getElem?_toList, h1]
  simp [hj']
theorem heap_sortK {w : World} {g n : Nat} {os : Array Obj} {cur : Array Value} {e : TypeId} {fr : Nat × Nat} (d : Array Value) (hb : w.heap[g]? = some (.cells cur e fr)) :
    (grow (putRow id (Sort.ahead w n) g 0 d) os).heap[g]? = some (.cells (putCells id 0 d cur) e fr) := by
  have hg : g < w.heap.size := (Array.getElem?_eq_some_iff.1 hb).1
  rw [heap_grow_old _ _ (by simpa using hg)]
  simp [putRow, mapBlock, Sort.ahead, Array.getElem?_modify, hb, onCells]
theorem grownBy_sortK {w : World} {g n : Nat} {os : Array Obj} (d : Array Value) : w.grownBy (grow (putRow id (Sort.ahead w n) g 0 d) os) (some g) := by
  refine ⟨rfl, rfl, rfl, by simp, fun k hk hne => ?_⟩
  rw [heap_grow_old _ _ (by simpa using hk)]
  have : g ≠ k := fun e => hne (by rw [e])
  simp [putRow, mapBlock, Sort.ahead, Array.getElem?_modify, this]
theorem take_putK (cur : Array Value) (ts : List Value) (h : ts.length ≤ cur.size) : (putCells id 0 ts.toArray cur).toList.take ts.length = ts := by
  apply List.ext_getElem?
  intro j
  by_cases hj : j < ts.length
  · rw [List.getElem?_take_of_lt hj, Array.getElem?_toList]
    simp [putCells, hj, show j < cur.size by omega]
  · rw [List.getElem?_take_eq_none (by omega), List.getElem?_eq_none (by omega)]
end
theorem agg_site (w : World) : (isAgg 39).run Tryd.prog w = .ok true w := by kernel_rfl
theorem size_site (w : World) : (Go.sizeOf 39).run Tryd.prog w = .ok 3 w := by kernel_rfl
def SortPostS (item : List UInt8) (L : List Sb) (v : Value) (B : Nat) (w : World) (e : Ending) (w' : World) : Prop :=
  e = .returned (.tuple #[]) ∧ ∃ d' : Array Sb, PermIn 0 L.toArray.size L.toArray d' ∧ SortedIn (ltS item) 0 L.toArray.size d' ∧ w'.ownsRow B 39 3 v L.length (d'.toList.flatMap sbCells) ∧ Below B w w'
theorem sortSite_any (v : Value) (L : List Sb) (item : List UInt8) (bi B : Nat) (w : World) (hO : w.ownsRow B 39 3 v L.length (L.flatMap sbCells)) (hlen : L.length ≤ 3000) (hB : bi < B ∧ B ≤ w.heap.size) (hil : item.length ≤ 1000000)
    (he : w.cell? ⟨bi, 0, none⟩ = some (.string (bstr item))) (hK : ∀ p q, p < q → q < L.toArray.size → ltS item L.toArray[q]! L.toArray[p]! = decide (cmpS item L.toArray[q]! L.toArray[p]! < 0)) :
    Calls Tryd.prog 29 #[v, .func (.func 30) #[] #[.pointer (some ⟨bi, 0, none⟩)]] w (SortPostS item L v B w) := by
  have hO' := hO
  obtain ⟨hlen3, hO⟩ := hO
  by_cases h0 : L.length = 0
  · obtain rfl : L = [] := List.length_eq_zero_iff.1 h0
    have hv : ∃ p c, v = .slice p 0 c := by
      rcases hO with ⟨rfl, _⟩ | ⟨g, cap, cur, rfl, _⟩
      · exact ⟨_, _, rfl⟩
      · exact ⟨_, _, rfl⟩
    obtain ⟨p, c, rfl⟩ := hv
    refine Calls.mono (stabsiteL.sortNone siteIns Tryd.func29 p c _ w) ?_
    rintro e w' ⟨rfl, rfl⟩
    exact ⟨rfl, #[], permIn_refl _ _ _, fun i j _ _ h => absurd h (by simp), hO', Below.refl _ _⟩
  · rcases hO with ⟨_, h⟩ | ⟨g, cap, cur, rfl, hBg, hg, hnc, hcm, hcs, htk⟩
    · exact absurd h h0
    have hgl : g < w.heap.size := (Array.getElem?_eq_some_iff.1 hg).1
    have hH : HoldsK sbCells 3 w g 0 L.toArray := by
      unfold HoldsK
      rw [flatK_list (f := sbCells) (k := 3) (fun _ => rfl)]
      exact holds_idK hg (by rw [hlen3]; exact htk)
    have hkept : ∀ (n : Nat) (dk : Array Sb) (os : Array Obj), w.grownBy (sortWorldK sbCells 3 w g 0 n dk os) (some g) := fun n dk os => by unfold sortWorldK putRowK; exact grownBy_sortK _
    have hcmp : CmpLays Tryd.prog 30 #[.pointer (some ⟨bi, 0, none⟩)] sbCells 3 (cmpS item) g 0 L.toArray.size w := fun m os dk _ x y => by
      have hs := grown_same (hkept m dk os)
      exact (cmpS_any item x y bi _ hil ((hs.cell (a := ⟨bi, 0, none⟩) ⟨by show bi < _; omega, fun e => by injection e with e; dsimp only at e; omega⟩).trans he)).mono fun e w' h => ⟨h.1, h.2.gr⟩
    have eg : ∀ args w, (callFunc 30 args).run Tryd.prog w = .ok (.enter 30 args) w := enters_of Tryd.func30 (by kernel_rfl) rfl
    have hcon := stabsiteL.sortStable siteIns Tryd.func29 agg_site size_site (cmpS item) (ltS item) (swoS item) (swoCS item) 30 #[.pointer (some ⟨bi, 0, none⟩)] cap eg hcmp (fun _ => rfl) (fun x v hv => by simp [sbCells, siteCells] at hv; rcases hv with rfl | rfl | rfl <;> rfl) hH hgl (by simp; omega) hK
    refine Calls.mono (show Calls Tryd.prog 29 #[.slice (some ⟨g, 0, none⟩) L.length cap, .func (.func 30) #[] #[.pointer (some ⟨bi, 0, none⟩)]] w _ from hcon) ?_
    rintro e w' ⟨rfl, d', ⟨hp, hs⟩, n, os, rfl⟩
    have hsz : d'.toList.length = L.length := by have := hp.1; simpa using this
    refine ⟨rfl, d', hp, hs, ?_, (Below.refl B w).grown (hkept n d' os) hB.2 (fun k e => by injection e with e; omega)⟩
    have hl3 : (d'.toList.flatMap sbCells).length = L.length * 3 := by rw [sb_flat_len, hsz]
    unfold sortWorldK putRowK
    rw [flatK_list (f := sbCells) (k := 3) (fun _ => rfl)]
    exact ⟨hl3, .inr ⟨g, cap, _, rfl, hBg, heap_sortK _ hg, hnc, hcm, by simp [putCells, hcs], by rw [← hl3]; exact take_putK cur _ (by rw [hl3, hcs]; exact Nat.mul_le_mul_right _ hnc)⟩⟩
end Go.Proofs.YtdeeiifcjbmmiaaDoor
