/-
  slices.Clone and slices.SortStableFunc at audits.
-/
import Derived.Test.YtbafnemcdhdagaaDoorProg
import Derived.Test.YtbafnemcdhdagaaDoorAudPlain
import Derived.Test.YtbafnemcdhdagaaDoorStabSAudit
import Derived.Sort.OwnSorted
import Derived.Laws.OwnMore
namespace Go.Proofs.YtbafnemcdhdagaaDoor
open Go.RowKit Go.Sort
set_option linter.unusedVariables false
set_option linter.unusedSimpArgs false

section
variable {α : Type} [Inhabited α] {f : α → List Value} {k : Nat}
theorem flatK_list (hk : ∀ a, (f a).length = k) (d : Array α) : flatK f k d = (d.toList.flatMap f).toArray := by
  have hlen : (d.toList.flatMap f).length = d.size * k := by rw [flat_len hk, Array.length_toList]
  refine Array.ext (by rw [size_flatK]; simp [hlen]) fun t h1 h2 => ?_
  rw [size_flatK] at h1
  have hk0 : 0 < k := by
    rcases Nat.eq_zero_or_pos k with h | h
    · rw [h, Nat.mul_zero] at h1; omega
    · exact h
  have h := get_flatK f k d t h1
  rw [getElem!_pos _ t (by rw [size_flatK]; exact h1)] at h
  rw [h]
  have ht : t / k < d.size := Nat.div_lt_of_lt_mul (by rw [Nat.mul_comm]; exact h1)
  have hm : t % k < k := Nat.mod_lt _ hk0
  have htk : t / k * k + t % k = t := by rw [Nat.mul_comm]; exact Nat.div_add_mod _ _
  have hfa := flat_at hk d.toList (t / k) (by simpa using ht)
  have hg : (d.toList.flatMap f)[t]? = (f (d.toList[t / k]'(by simpa using ht)))[t % k]? := by
    rw [← hfa, List.getElem?_take_of_lt hm, List.getElem?_drop, htk]
  have hd : d[t / k]! = d.toList[t / k]'(by simpa using ht) := by rw [getElem!_pos d _ ht]; simp
  rw [← hd] at hg
  have hm2 : t % k < (f d[t / k]!).length := by rw [hk]; exact hm
  rw [getElem!_pos (f d[t / k]!) (t % k) hm2]
  rw [List.getElem?_eq_getElem hm2, List.getElem?_eq_getElem (by rw [hlen]; exact h1)] at hg
  injection hg with hg
  exact hg.symm
theorem holds_idK {w : World} {g : Nat} {cur : Array Value} {e : TypeId} {xs : List Value} (hb : w.heap[g]? = some (.cells cur e (0, 0))) (ht : cur.toList.take xs.length = xs) : Holds id w g 0 xs.toArray := by
  intro j hj
  have hj' : j < xs.length := by simpa using hj
  refine ⟨?_, by simp [World.frozen?, hb]⟩
  have h1 : (cur.toList.take xs.length)[j]? = xs[j]? := by rw [ht]
  rw [List.getElem?_take_of_lt hj'] at h1
  simp only [World.cell?, hb, Nat.zero_add]
  simp only [Option.isSome_none, Bool.false_eq_true, if_false]
  rw [← Array.getElem?_toList, h1]
  simp [hj']
theorem heap_sortK {w : World} {g n : Nat} {os : Array Obj} {cur : Array Value} {e : TypeId} {fr : Nat × Nat} (d : Array Value) (hb : w.heap[g]? = some (.cells cur e fr)) :
    (grow (putRow id (Sort.ahead w n) g 0 d) os).heap[g]? = some (.cells (putCells id 0 d cur) e fr) := by
  have hg : g < w.heap.size := (Array.getElem?_eq_some_iff.1 hb).1
  rw [heap_grow_old _ _ (by simpa using hg)]
  simp [putRow, mapBlock, Sort.ahead, Array.getElem?_modify, hb, onCells]
theorem grownBy_sortK {w : World} {g n : Nat} {os : Array Obj} (d : Array Value) : w.grownBy (grow (putRow id (Sort.ahead w n) g 0 d) os) (some g) := by
  refine ⟨rfl, rfl, rfl, by simp, fun k hk hne => ?_⟩
  rw [heap_grow_old _ _ (by simpa using hk)]
  have : g ≠ k := fun e => hne (by rw [e])
  simp [putRow, mapBlock, Sort.ahead, Array.getElem?_modify, this]
theorem take_putK (cur : Array Value) (ts : List Value) (h : ts.length ≤ cur.size) : (putCells id 0 ts.toArray cur).toList.take ts.length = ts := by
  apply List.ext_getElem?
  intro j
  by_cases hj : j < ts.length
  · rw [List.getElem?_take_of_lt hj, Array.getElem?_toList]
    simp [putCells, hj, show j < cur.size by omega]
  · rw [List.getElem?_take_eq_none (by omega), List.getElem?_eq_none (by omega)]
end
set_option maxRecDepth 100000 in
set_option maxHeartbeats 1000000 in
theorem cloneAud_some (ad : Addr) (c : Nat) (l : List Aud) (w : World) (h : (Rp.sl audRp).ok w (· < w.heap.size) [.slice (some ad) l.length c] l) (hm : l.length ≤ 3000) :
    Calls Tryd.prog 57 #[.slice (some ad) l.length c] w fun e w' => ∃ v, e = .returned v ∧ w'.ownsRow w.heap.size 103 3 v l.length (l.flatMap audCells) ∧ Below w.heap.size w w' := by
  have hq : ∀ W : World, (binOp .eql 49 (.slice (some ad) l.length c) (.slice none 0 0)).run Tryd.prog W = .ok (.bool false) W := fun W => Lib.run_eql_slice_nil (P := Tryd.prog) W 49 103 (some ad) l.length c 0 0 Tryd.underlying49
  have ho : (w.alloc (.cells #[] 103)).ownsRow w.heap.size 103 3 (.slice (some ⟨w.heap.size, 0, none⟩) 0 0) 0 [] := World.ownsRow_lit (size := 3) w #[] 0 (Nat.le_refl _) (by unfold maxLen; omega) rfl
  have HO := Lib.hid ho
  have hal := (Below.refl w.heap.size w).alloc (Nat.le_refl _) (.cells #[] 103)
  have HAL := Lib.hid hal
  have hcells : ∀ j u, (l.flatMap audCells)[j]? = some u → (w.alloc (.cells #[] 103)).cell? (ad.add j) = some u := by
    intro j u hj
    have hjl : j < l.length * 3 := by rw [← aud_flat_len]; exact (List.getElem?_eq_some_iff.1 hj).1
    obtain ⟨ad', c', e1, hb, c0, c1, c2, _, _⟩ := aud_at (Rp.below _ h hal) (show j / 3 < l.length by omega)
    injection e1 with e1 _ _
    injection e1 with e1
    subst e1
    have e2 := aud_flat_at l (j / 3) (j % 3) (by omega) (by omega)
    rw [show j / 3 * 3 + j % 3 = j by omega, hj] at e2
    have hadd : ∀ i, 0 < i → ad.add (j / 3 * 3 + i) = ⟨(ad.add (j / 3 * 3)).block, (ad.add (j / 3 * 3)).off + i, none⟩ := fun i hi => add_fld ad (j / 3 * 3) i hi
    rcases (show j % 3 = 0 ∨ j % 3 = 1 ∨ j % 3 = 2 by omega) with h0 | h0 | h0
    · rw [h0] at e2
      rw [show ad.add j = ad.add (j / 3 * 3) by congr 1; omega, c0]; exact e2.symm
    · rw [h0] at e2
      rw [show ad.add j = ad.add (j / 3 * 3 + 1) by congr 1; omega, hadd 1 (by decide), c1]; exact e2.symm
    · rw [h0] at e2
      rw [show ad.add j = ad.add (j / 3 * 3 + 2) by congr 1; omega, hadd 2 (by decide), c2]; exact e2.symm
  have HC := Lib.hid hcells
  have hfl : (l.flatMap audCells).length = l.length * 3 := aud_flat_len l
  have HFL := Lib.hid hfl
  have H1 : Hid (∀ u ∈ l.flatMap audCells, u.oneCell' = true) := Lib.hid (fun u hu => by obtain ⟨x, _, hx⟩ := List.mem_flatMap.1 hu; simp [audCells] at hx; rcases hx with rfl | rfl | rfl <;> rfl)
  obtain ⟨i, hi, hz, hi1, hi2⟩ := info_parts aud_info
  clear ho hal h hfl hcells
  go_enter Tryd.func57, Tryd.ntmps57
  go_wp2_with (at_builtin; refine wpList_append_own _ rfl (.tmp 5) (.tmp 6) 49 rfl w.heap.size 103 i (.agg #[.string ⟨#[]⟩, .int .i64 0, .bool false]) 3 32 Tryd.underlying49 hi hz hi1 hi2 rfl (by decide) (.slice (some ⟨w.heap.size, 0, none⟩) 0 0) 0 [] rfl HO.out ad l.length c (l.flatMap audCells) rfl HFL.out HC.out H1.out (by unfold maxLen; omega) (by omega) (by simp) ?_; intro v' w' hown hgr _)
  go_ret
  have h2 := hown
  simp only [Nat.zero_add, List.nil_append] at h2
  exact ⟨_, rfl, h2, HAL.out.grown hgr (by simp) (fun k e => by cases e; exact Nat.le_refl _)⟩
theorem cloneAud_any (v : Value) (l : List Aud) (w : World) (h : (Rp.sl audRp).ok w (· < w.heap.size) [v] l) (hm : l.length ≤ 3000) :
    Calls Tryd.prog 57 #[v] w fun e w' => ∃ v', e = .returned v' ∧ w'.ownsRow w.heap.size 103 3 v' l.length (l.flatMap audCells) ∧ Below w.heap.size w w' := by
  obtain ⟨A, c, rfl, hl, hc, h0⟩ := Rp.sl_open h
  cases A with
  | some ad => exact cloneAud_some ad c l w h hm
  | none =>
    have hc0 := h0 rfl
    have hl0 : l = [] := List.eq_nil_of_length_eq_zero (by omega)
    subst hl0 hc0
    clear h hl hc h0 hm
    have hq : ∀ W : World, (binOp .eql 49 (.slice none 0 0) (.slice none 0 0)).run Tryd.prog W = .ok (.bool true) W := fun W => by kernel_rfl
    go_enter Tryd.func57, Tryd.ntmps57
    go_wp2_with fail
    go_ret
    exact ⟨_, rfl, World.ownsRow_nil _ _ _ _, Below.refl _ _⟩
theorem agg_aud (w : World) : (isAgg 103).run Tryd.prog w = .ok true w := by kernel_rfl
theorem size_aud (w : World) : (Go.sizeOf 103).run Tryd.prog w = .ok 3 w := by kernel_rfl
def SortPostA (ev dy : Int) (L : List Aud) (v : Value) (B : Nat) (w : World) (e : Ending) (w' : World) : Prop :=
  e = .returned (.tuple #[]) ∧ ∃ d' : Array Aud, PermIn 0 L.toArray.size L.toArray d' ∧ SortedIn (ltA ev dy) 0 L.toArray.size d' ∧ w'.ownsRow B 103 3 v L.length (d'.toList.flatMap audCells) ∧ Below B w w'
theorem sortAud_any (v : Value) (L : List Aud) (ev dy : Int) (be bd B : Nat) (w : World) (hO : w.ownsRow B 103 3 v L.length (L.flatMap audCells)) (hlen : L.length ≤ 3000) (hB : be < B ∧ bd < B ∧ B ≤ w.heap.size) (h1 : 1 ≤ ev) (h2 : ev ≤ 3000000) (h3 : 0 ≤ dy) (h4 : dy ≤ 3000000)
    (he : w.cell? ⟨be, 0, none⟩ = some (.int .i64 ev)) (hd : w.cell? ⟨bd, 0, none⟩ = some (.int .i64 dy)) (hK : ∀ p q, p < q → q < L.toArray.size → ltA ev dy L.toArray[q]! L.toArray[p]! = decide (cmpA L.toArray[q]! L.toArray[p]! ev dy < 0)) :
    Calls Tryd.prog 60 #[v, .func (.func 61) #[] #[.pointer (some ⟨be, 0, none⟩), .pointer (some ⟨bd, 0, none⟩)]] w (SortPostA ev dy L v B w) := by
  have hO' := hO
  obtain ⟨hlen3, hO⟩ := hO
  by_cases h0 : L.length = 0
  · obtain rfl : L = [] := List.length_eq_zero_iff.1 h0
    have hv : ∃ p c, v = .slice p 0 c := by
      rcases hO with ⟨rfl, _⟩ | ⟨g, cap, cur, rfl, _⟩
      · exact ⟨_, _, rfl⟩
      · exact ⟨_, _, rfl⟩
    obtain ⟨p, c, rfl⟩ := hv
    refine Calls.mono (stabauditL.sortNone auditIns Tryd.func60 p c _ w) ?_
    rintro e w' ⟨rfl, rfl⟩
    exact ⟨rfl, #[], permIn_refl _ _ _, fun i j _ _ h => absurd h (by simp), hO', Below.refl _ _⟩
  · rcases hO with ⟨_, h⟩ | ⟨g, cap, cur, rfl, hBg, hg, hnc, hcm, hcs, htk⟩
    · exact absurd h h0
    have hgl : g < w.heap.size := (Array.getElem?_eq_some_iff.1 hg).1
    have hH : HoldsK audCells 3 w g 0 L.toArray := by
      unfold HoldsK
      rw [flatK_list (f := audCells) (k := 3) (fun _ => rfl)]
      exact holds_idK hg (by rw [hlen3]; exact htk)
    have hkept : ∀ (n : Nat) (dk : Array Aud) (os : Array Obj), w.grownBy (sortWorldK audCells 3 w g 0 n dk os) (some g) := fun n dk os => by unfold sortWorldK putRowK; exact grownBy_sortK _
    have hcmp : CmpLays Tryd.prog 61 #[.pointer (some ⟨be, 0, none⟩), .pointer (some ⟨bd, 0, none⟩)] audCells 3 (fun x y => cmpA x y ev dy) g 0 L.toArray.size w := fun m os dk _ x y => by
      have hs := grown_same (hkept m dk os)
      exact cmpA_any x y ev dy be bd _ h1 h2 h3 h4 ((hs.cell (a := ⟨be, 0, none⟩) ⟨by show be < _; omega, fun e => by injection e with e; dsimp only at e; omega⟩).trans he) ((hs.cell (a := ⟨bd, 0, none⟩) ⟨by show bd < _; omega, fun e => by injection e with e; dsimp only at e; omega⟩).trans hd)
    have eg : ∀ args w, (callFunc 61 args).run Tryd.prog w = .ok (.enter 61 args) w := enters_of Tryd.func61 (by kernel_rfl) rfl
    have hcon := stabauditL.sortStable auditIns Tryd.func60 agg_aud size_aud (fun x y => cmpA x y ev dy) (ltA ev dy) (swoA ev dy) (swoC ev dy) 61 #[.pointer (some ⟨be, 0, none⟩), .pointer (some ⟨bd, 0, none⟩)] cap eg hcmp (fun _ => rfl) (fun x v hv => by simp [audCells] at hv; rcases hv with rfl | rfl | rfl <;> rfl) hH hgl (by simp; omega) hK
    refine Calls.mono (show Calls Tryd.prog 60 #[.slice (some ⟨g, 0, none⟩) L.length cap, .func (.func 61) #[] #[.pointer (some ⟨be, 0, none⟩), .pointer (some ⟨bd, 0, none⟩)]] w _ from hcon) ?_
    rintro e w' ⟨rfl, d', ⟨hp, hs⟩, n, os, rfl⟩
    have hsz : d'.toList.length = L.length := by have := hp.1; simpa using this
    refine ⟨rfl, d', hp, hs, ?_, (Below.refl B w).grown (hkept n d' os) hB.2.2 (fun k e => by injection e with e; omega)⟩
    have hl3 : (d'.toList.flatMap audCells).length = L.length * 3 := by rw [aud_flat_len, hsz]
    unfold sortWorldK putRowK
    rw [flatK_list (f := audCells) (k := 3) (fun _ => rfl)]
    exact ⟨hl3, .inr ⟨g, cap, _, rfl, hBg, heap_sortK _ hg, hnc, hcm, by simp [putCells, hcs], by rw [← hl3]; exact take_putK cur _ (by rw [hl3, hcs]; exact Nat.mul_le_mul_right _ hnc)⟩⟩
end Go.Proofs.YtbafnemcdhdagaaDoor
