/-
  Rows of copies that a call owns: slices.Clone, one more element, a cell written; the key of a copy.
-/
import Derived.Test.YtnkdcmibafjplaaGreatDoorFind
import Derived.Test.YtnkdcmibafjplaaGreatDoorInsHeld
import Derived.Test.YtnkdcmibafjplaaGreatDoorVMap
import Derived.Laws.OwnMore
namespace Go.Proofs.YtnkdcmibafjplaaGreatDoor
open Go.RowKit
set_option linter.unusedVariables false
set_option linter.unusedSimpArgs false

theorem held_flat (l : List Held) (k : Nat) (h : k < l.length) : ((l.flatMap heldCells).drop (k * 3)).take 3 = heldCells l[k] := flat_at (f := heldCells) (sz := 3) (fun _ => rfl) l k h
theorem held_flat_len (l : List Held) : (l.flatMap heldCells).length = l.length * 3 := flat_len (f := heldCells) (sz := 3) (fun _ => rfl) l
theorem held_flat_at (l : List Held) (k j : Nat) (h : k < l.length) (hj : j < 3) : (l.flatMap heldCells)[k * 3 + j]? = (heldCells l[k])[j]? := by
  rw [← held_flat l k h, List.getElem?_take_of_lt hj, List.getElem?_drop]
set_option maxRecDepth 100000 in
set_option maxHeartbeats 1000000 in
theorem cloneHeld_some (ad : Addr) (c : Nat) (l : List Held) (w : World) (h : (Rp.sl heldRp).ok w (· < w.heap.size) [.slice (some ad) l.length c] l) (hm : l.length ≤ 3000) :
    Calls Tryz.prog 37 #[.slice (some ad) l.length c] w fun e w' => ∃ v, e = .returned v ∧ w'.ownsRow w.heap.size 54 3 v l.length (l.flatMap heldCells) ∧ Below w.heap.size w w' := by
  have hq : ∀ W : World, (binOp .eql 47 (.slice (some ad) l.length c) (.slice none 0 0)).run Tryz.prog W = .ok (.bool false) W := fun W => Lib.run_eql_slice_nil (P := Tryz.prog) W 47 54 (some ad) l.length c 0 0 Tryz.underlying47
  have ho : (w.alloc (.cells #[] 54)).ownsRow w.heap.size 54 3 (.slice (some ⟨w.heap.size, 0, none⟩) 0 0) 0 [] := World.ownsRow_lit (size := 3) w #[] 0 (Nat.le_refl _) (by unfold maxLen; omega) rfl
  have HO := Lib.hid ho
  have hal := (Below.refl w.heap.size w).alloc (Nat.le_refl _) (.cells #[] 54)
  have HAL := Lib.hid hal
  have hcells : ∀ j u, (l.flatMap heldCells)[j]? = some u → (w.alloc (.cells #[] 54)).cell? (ad.add j) = some u := by
    intro j u hj
    have hjl : j < l.length * 3 := by rw [← held_flat_len]; exact (List.getElem?_eq_some_iff.1 hj).1
    obtain ⟨ad', c', e1, hb, c0, c1, c2, _, _, _⟩ := held_at (Rp.below _ h hal) (show j / 3 < l.length by omega)
    injection e1 with e1 _ _
    injection e1 with e1
    subst e1
    have e2 := held_flat_at l (j / 3) (j % 3) (by omega) (by omega)
    rw [show j / 3 * 3 + j % 3 = j by omega, hj] at e2
    have hadd : ∀ i, 0 < i → ad.add (j / 3 * 3 + i) = ⟨(ad.add (j / 3 * 3)).block, (ad.add (j / 3 * 3)).off + i, none⟩ := fun i hi => add_fld ad (j / 3 * 3) i hi
    rcases (show j % 3 = 0 ∨ j % 3 = 1 ∨ j % 3 = 2 by omega) with h0 | h0 | h0
    · rw [h0] at e2
      rw [show ad.add j = ad.add (j / 3 * 3) by congr 1; omega, c0]; exact e2.symm
    · rw [h0] at e2
      rw [show ad.add j = ad.add (j / 3 * 3 + 1) by congr 1; omega, hadd 1 (by decide), c1]; exact e2.symm
    · rw [h0] at e2
      rw [show ad.add j = ad.add (j / 3 * 3 + 2) by congr 1; omega, hadd 2 (by decide), c2]; exact e2.symm
  have HC := Lib.hid hcells
  have hfl : (l.flatMap heldCells).length = l.length * 3 := held_flat_len l
  have HFL := Lib.hid hfl
  have H1 : Hid (∀ u ∈ l.flatMap heldCells, u.oneCell' = true) := Lib.hid (fun u hu => by obtain ⟨x, _, hx⟩ := List.mem_flatMap.1 hu; simp [heldCells] at hx; rcases hx with rfl | rfl | rfl <;> rfl)
  obtain ⟨i, hi, hz, hi1, hi2⟩ := info_parts held_info
  clear ho hal h hfl hcells
  go_enter Tryz.func37, Tryz.ntmps37
  go_wp2_with (at_builtin; refine wpList_append_own _ rfl (.tmp 5) (.tmp 6) 47 rfl w.heap.size 54 i (.agg #[.string ⟨#[]⟩, .string ⟨#[]⟩, .string ⟨#[]⟩]) 3 48 Tryz.underlying47 hi hz hi1 hi2 rfl (by decide) (.slice (some ⟨w.heap.size, 0, none⟩) 0 0) 0 [] rfl HO.out ad l.length c (l.flatMap heldCells) rfl HFL.out HC.out H1.out (by unfold maxLen; omega) (by omega) (by simp) ?_; intro v' w' hown hgr _)
  go_ret
  have h2 := hown
  simp only [Nat.zero_add, List.nil_append] at h2
  exact ⟨_, rfl, h2, HAL.out.grown hgr (by simp) (fun k e => by cases e; exact Nat.le_refl _)⟩
theorem cloneHeld_any (v : Value) (l : List Held) (w : World) (h : (Rp.sl heldRp).ok w (· < w.heap.size) [v] l) (hm : l.length ≤ 3000) :
    Calls Tryz.prog 37 #[v] w fun e w' => ∃ v', e = .returned v' ∧ w'.ownsRow w.heap.size 54 3 v' l.length (l.flatMap heldCells) ∧ Below w.heap.size w w' := by
  obtain ⟨A, c, rfl, hl, hc, h0⟩ := Rp.sl_open h
  cases A with
  | some ad => exact cloneHeld_some ad c l w h hm
  | none =>
    have hc0 := h0 rfl
    have hl0 : l = [] := List.eq_nil_of_length_eq_zero (by omega)
    subst hl0 hc0
    clear h hl hc h0 hm
    have hq : ∀ W : World, (binOp .eql 47 (.slice none 0 0) (.slice none 0 0)).run Tryz.prog W = .ok (.bool true) W := fun W => by kernel_rfl
    go_enter Tryz.func37, Tryz.ntmps37
    go_wp2_with fail
    go_ret
    exact ⟨_, rfl, World.ownsRow_nil _ _ _ _, Below.refl _ _⟩
theorem flat_take (L : List Held) (i : Nat) (h : i ≤ L.length) : (L.flatMap heldCells).take (i * 3) = (L.take i).flatMap heldCells := by
  conv => lhs; rw [← List.take_append_drop i L, List.flatMap_append]
  rw [List.take_left' (by rw [held_flat_len, List.length_take, Nat.min_eq_left h])]
theorem flat_drop (L : List Held) (i : Nat) (h : i ≤ L.length) : (L.flatMap heldCells).drop (i * 3) = (L.drop i).flatMap heldCells := by
  conv => lhs; rw [← List.take_append_drop i L, List.flatMap_append]
  rw [List.drop_left' (by rw [held_flat_len, List.length_take, Nat.min_eq_left h])]
theorem flat_ins (L : List Held) (i : Nat) (h : i ≤ L.length) (x : Held) : (L.flatMap heldCells).take (i * 3) ++ heldCells x ++ (L.flatMap heldCells).drop (i * 3) = (L.take i ++ x :: L.drop i).flatMap heldCells := by
  rw [flat_take L i h, flat_drop L i h, List.flatMap_append, List.flatMap_cons, List.append_assoc]
theorem flat_dig (L : List Held) (i : Nat) (h : i < L.length) (d : List UInt8) : (L.flatMap heldCells).set (i * 3 + 2) (.string (bstr d)) = (L.set i ⟨L[i].item, L[i].site, d⟩).flatMap heldCells := by
  conv => lhs; rw [← List.take_append_drop i L, List.drop_eq_getElem_cons h, List.flatMap_append, List.flatMap_cons]
  rw [List.set_append_right _ _ (by rw [held_flat_len, List.length_take]; omega), held_flat_len, List.length_take, Nat.min_eq_left (by omega), show i * 3 + 2 - i * 3 = 2 by omega, List.set_append_left _ _ (by simp [heldCells]),
    show (heldCells L[i]).set 2 (.string (bstr d)) = heldCells ⟨L[i].item, L[i].site, d⟩ from rfl, List.set_eq_take_append_cons_drop, if_pos h, List.flatMap_append, List.flatMap_cons]
theorem own_set {w : World} {B g n c j : Nat} {e : TypeId} {sz : Nat} {xs : List Value} (h : w.ownsRow B e sz (.slice (some ⟨g, 0, none⟩) n c) n xs) (hj : j < n * sz) (u : Value) :
    (w.setCell ⟨g, j, none⟩ u).ownsRow B e sz (.slice (some ⟨g, 0, none⟩) n c) n (xs.set j u) := by
  refine ⟨by rw [List.length_set]; exact h.1, ?_⟩
  rcases h.2 with ⟨h1, _⟩ | ⟨g', cap, cur, h1, hb, hh, h2, h3, h4, h5⟩
  · cases h1
  · injection h1 with h1 _ h6
    injection h1 with h1
    injection h1 with h1
    subst h1 h6
    refine .inr ⟨g, c, cur.setIfInBounds j u, rfl, hb, ?_, h2, h3, by simp [h4], ?_⟩
    · simp [World.setCell, Array.getElem?_modify, hh]
    · rw [Array.toList_setIfInBounds, List.take_set, h5]
theorem set_grownO (w : World) (g i : Nat) (v : Value) : w.grownBy (w.setCell ⟨g, i, none⟩ v) (some g) :=
  ⟨rfl, rfl, rfl, by simp [World.setCell], fun k hk hne => heap_setCell_other _ _ _ _ (fun e => hne (by rw [e]))⟩
theorem held_ok {w : World} {S : Nat → Prop} {h : Held} (hz : HSz h) : heldRp.ok w S (heldCells h) h := ⟨[_], [_, _], rfl, ⟨rfl, hz.1⟩, ⟨[_], [_], rfl, ⟨rfl, hz.2.1⟩, ⟨rfl, hz.2.2⟩⟩⟩
theorem held_read {w : World} {B n : Nat} {v : Value} {L : List Held} (h : w.ownsRow B 54 3 v n (L.flatMap heldCells)) (hz : ∀ x ∈ L, HSz x) : (Rp.sl heldRp).ok w (· < w.heap.size) [v] L :=
  Rp.of_ownN (R := heldRp) (by decide) (fun _ => rfl) h (fun g hg => (h.lt g hg).2) (fun x hx => held_ok (hz x hx))
theorem held_key (a b : ByteArray) (ha : a.size ≤ maxLen) (hb : b.size ≤ maxLen) : ∃ kl, keyOf Tryz.prog 54 (.agg #[.string a, .string b, .string ⟨#[]⟩]) = some kl := by
  have h1 : Tryz.prog.keyType 54 = true := by kernel_rfl
  have h2 : (Value.agg #[.string a, .string b, .string ⟨#[]⟩]).formed Tryz.prog 54 = true := by kernel_rfl
  obtain ⟨m, hm⟩ : ∃ m, Tryz.prog.types.size = m + 1 := ⟨Tryz.prog.types.size - 1, by kernel_rfl⟩
  refine ⟨.string (keyBytes [.string a.data.toList, .string b.data.toList, .string []]), ?_⟩
  unfold keyOf
  rw [Tryz.underlying54, h1, h2, hm]
  simp only [Bool.and_self, if_true, Program.keyLits, Tryz.underlying54]
  have c1 : Tryz.prog.cellsOf 54 = 3 := by kernel_rfl
  have c2 : Tryz.prog.cellsOf 9 = 1 := by kernel_rfl
  have c3 : (⟨#[]⟩ : ByteArray).size ≤ maxLen := Nat.zero_le _
  simp [c1, c2, Value.cells, Tryz.underlying9, ha, hb]
  rw [if_pos c3]
  rfl
theorem held_law : Maps.Keyed Tryz.prog 54 := Maps.Keyed.of_law (deep_law_laid (by kernel_rfl) (m := 2) (by omega) (of_decide_eq_true (by kernel_rfl)) (by kernel_rfl) (by kernel_rfl))
end Go.Proofs.YtnkdcmibafjplaaGreatDoor
