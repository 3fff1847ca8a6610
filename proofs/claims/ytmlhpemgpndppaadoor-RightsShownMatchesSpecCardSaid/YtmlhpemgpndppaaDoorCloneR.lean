/-
  slices.Clone of rights; append of a row that lies in a block.
-/
import Derived.Test.YtmlhpemgpndppaaDoorRights
namespace Go.Proofs.YtmlhpemgpndppaaDoor
open Go.RowKit
set_option linter.unusedVariables false
set_option linter.unusedSimpArgs false

section
variable {P : Program} {ops : Array Oper} {o : Oper} {a : Act} {Q : Exit → Act → World → Prop}
/-- 'append(v, u..)' in a region that draws its order, where the row u.. lies whole in block r. -/
theorem step_app_blk {K : Act → World → Prop} {E' : Prop} {W : World} (hgd : o.guard = none) (s x : Operand) (t : TypeId)
    (ho : o.op = .call { callee := .builtin .append, args := #[s, x], argTypes := #[t, t] })
    (e : TypeId) (z : Value) (size bytes : Nat) (ht : P.underlying t = some (.slice e)) (hinfo : (P.info? e).map (fun i => (i.zero, i.size, i.bytes)) = some (some z, size, bytes))
    (hzs : z.cells.size = size) (hsz : 0 < size)
    {B : Nat} {v : Value} {n m : Nat} {xs : List Value} (us : List Value) {r : Nat} (hblk : Blk W r e us) (hown : W.ownsRow B e size v n xs) (hB : B ≤ W.heap.size)
    (hs : a.eval s = v) (hx : a.eval x = .slice (some ⟨r, 0, none⟩) m m) (hl : us.length = m * size) (hu : ∀ u ∈ us, u.oneCell' = true)
    (hn : n + m ≤ maxLen) (hbytes : (n + m) * bytes ≤ 140737488355328)
    (h : ∀ v' w', Hid (w'.ownsRow B e size v' (n + m) (xs ++ us)) → Hid (W.grownBy w' v.ownBlock) → K (a.put o.dst v') w') :
    if Region.wanted o (yielded ops a.tmps) = true then Oper.wp P o a W K Q else E' := by
  have hw : Region.wanted o (yielded ops a.tmps) = true := by simp [Region.wanted, hgd]
  rw [if_pos hw]
  obtain ⟨i, hi, hz, h1, h2⟩ := info_parts hinfo
  refine wp_append_own W s x t ho B e i z size bytes ht hi hz h1 h2 hzs hsz v n xs hs hown ⟨r, 0, none⟩ m m us hx hl (fun j u hj => ?_) hu hn hbytes hB (fun v' w' h1 h2 _ => h v' w' h1 h2)
  have hadd : (⟨r, 0, none⟩ : Addr).add j = ⟨r, j, none⟩ := by unfold Addr.add; split <;> simp_all
  rw [hadd, hblk.cell j]; exact hj
end
theorem rgt_info : (Tryd.prog.info? 37).map (fun i => (i.zero, i.size, i.bytes)) = some (some (.agg #[.string ⟨#[]⟩, .string ⟨#[]⟩, .int .i64 0, .int .i64 0, .int .i64 0, .int .i64 0, .int .i64 0, .int .i64 0, .string ⟨#[]⟩]), 9, 96) := by kernel_rfl
theorem rgt_flat (l : List Rgt) (k : Nat) (h : k < l.length) : ((l.flatMap rgtCells).drop (k * 9)).take 9 = rgtCells l[k] := flat_at (f := rgtCells) (sz := 9) (fun _ => rfl) l k h
theorem rgt_flat_len (l : List Rgt) : (l.flatMap rgtCells).length = l.length * 9 := flat_len (f := rgtCells) (sz := 9) (fun _ => rfl) l
theorem rgt_flat_at (l : List Rgt) (k j : Nat) (h : k < l.length) (hj : j < 9) : (l.flatMap rgtCells)[k * 9 + j]? = (rgtCells l[k])[j]? := by
  rw [← rgt_flat l k h, List.getElem?_take_of_lt hj, List.getElem?_drop]
set_option maxRecDepth 100000 in
set_option maxHeartbeats 1000000 in
theorem clone_rgt_some (ad : Addr) (c : Nat) (l : List Rgt) (w : World) (h : (Rp.sl rgtRp).ok w (· < w.heap.size) [.slice (some ad) l.length c] l) (hm : l.length ≤ 1000) :
    Calls Tryd.prog 15 #[.slice (some ad) l.length c] w fun e w' => ∃ v, e = .returned v ∧ w'.ownsRow w.heap.size 37 9 v l.length (l.flatMap rgtCells) ∧ Below w.heap.size w w' := by
  have hq : ∀ W : World, (binOp .eql 23 (.slice (some ad) l.length c) (.slice none 0 0)).run Tryd.prog W = .ok (.bool false) W := fun W => Lib.run_eql_slice_nil (P := Tryd.prog) W 23 37 (some ad) l.length c 0 0 Tryd.underlying23
  have ho : (w.alloc (.cells #[] 37)).ownsRow w.heap.size 37 9 (.slice (some ⟨w.heap.size, 0, none⟩) 0 0) 0 [] := World.ownsRow_lit (size := 9) w #[] 0 (Nat.le_refl _) (by unfold maxLen; omega) rfl
  have HO := Lib.hid ho
  have hal := (Below.refl w.heap.size w).alloc (Nat.le_refl _) (.cells #[] 37)
  have HAL := Lib.hid hal
  have hcells : ∀ j u, (l.flatMap rgtCells)[j]? = some u → (w.alloc (.cells #[] 37)).cell? (ad.add j) = some u := by
    intro j u hj
    have hjl : j < l.length * 9 := by rw [← rgt_flat_len]; exact (List.getElem?_eq_some_iff.1 hj).1
    obtain ⟨ad', c', e1, hb, c0, c1, c2, c3, c4, c5, c6, c7, c8, _⟩ := rgt_at (Rp.below _ h hal) (show j / 9 < l.length by omega)
    injection e1 with e1 _ _
    injection e1 with e1
    subst e1
    have e2 := rgt_flat_at l (j / 9) (j % 9) (by omega) (by omega)
    rw [show j / 9 * 9 + j % 9 = j by omega, hj] at e2
    have hadd : ∀ i, 0 < i → ad.add (j / 9 * 9 + i) = ⟨(ad.add (j / 9 * 9)).block, (ad.add (j / 9 * 9)).off + i, none⟩ := fun i hi => add_fld ad (j / 9 * 9) i hi
    rcases (show j % 9 = 0 ∨ j % 9 = 1 ∨ j % 9 = 2 ∨ j % 9 = 3 ∨ j % 9 = 4 ∨ j % 9 = 5 ∨ j % 9 = 6 ∨ j % 9 = 7 ∨ j % 9 = 8 by omega) with h0 | h0 | h0 | h0 | h0 | h0 | h0 | h0 | h0
    · rw [h0] at e2
      rw [show ad.add j = ad.add (j / 9 * 9) by congr 1; omega, c0]; exact e2.symm
    · rw [h0] at e2
      rw [show ad.add j = ad.add (j / 9 * 9 + 1) by congr 1; omega, hadd 1 (by decide), c1]; exact e2.symm
    · rw [h0] at e2
      rw [show ad.add j = ad.add (j / 9 * 9 + 2) by congr 1; omega, hadd 2 (by decide), c2]; exact e2.symm
    · rw [h0] at e2
      rw [show ad.add j = ad.add (j / 9 * 9 + 3) by congr 1; omega, hadd 3 (by decide), c3]; exact e2.symm
    · rw [h0] at e2
      rw [show ad.add j = ad.add (j / 9 * 9 + 4) by congr 1; omega, hadd 4 (by decide), c4]; exact e2.symm
    · rw [h0] at e2
      rw [show ad.add j = ad.add (j / 9 * 9 + 5) by congr 1; omega, hadd 5 (by decide), c5]; exact e2.symm
    · rw [h0] at e2
      rw [show ad.add j = ad.add (j / 9 * 9 + 6) by congr 1; omega, hadd 6 (by decide), c6]; exact e2.symm
    · rw [h0] at e2
      rw [show ad.add j = ad.add (j / 9 * 9 + 7) by congr 1; omega, hadd 7 (by decide), c7]; exact e2.symm
    · rw [h0] at e2
      rw [show ad.add j = ad.add (j / 9 * 9 + 8) by congr 1; omega, hadd 8 (by decide), c8]; exact e2.symm
  have HC := Lib.hid hcells
  have hfl : (l.flatMap rgtCells).length = l.length * 9 := rgt_flat_len l
  have HFL := Lib.hid hfl
  have H1 : Hid (∀ u ∈ l.flatMap rgtCells, u.oneCell' = true) := Lib.hid (fun u hu => by obtain ⟨x, _, hx⟩ := List.mem_flatMap.1 hu; simp [rgtCells] at hx; rcases hx with rfl | rfl | rfl | rfl | rfl | rfl | rfl | rfl | rfl <;> rfl)
  obtain ⟨i, hi, hz, hi1, hi2⟩ := info_parts rgt_info
  clear ho hal h hfl hcells
  go_enter Tryd.func15, Tryd.ntmps15
  go_wp2_with (at_builtin; refine wpList_append_own _ rfl (.tmp 5) (.tmp 6) 23 rfl w.heap.size 37 i (.agg #[.string ⟨#[]⟩, .string ⟨#[]⟩, .int .i64 0, .int .i64 0, .int .i64 0, .int .i64 0, .int .i64 0, .int .i64 0, .string ⟨#[]⟩]) 9 96 Tryd.underlying23 hi hz hi1 hi2 rfl (by decide) (.slice (some ⟨w.heap.size, 0, none⟩) 0 0) 0 [] rfl HO.out ad l.length c (l.flatMap rgtCells) rfl HFL.out HC.out H1.out (by unfold maxLen; omega) (by omega) (by simp) ?_; intro v' w' hown hgr _)
  go_ret
  have h2 := hown
  simp only [Nat.zero_add, List.nil_append] at h2
  exact ⟨_, rfl, h2, HAL.out.grown hgr (by simp) (fun k e => by cases e; exact Nat.le_refl _)⟩
theorem clone_rgt_any (v : Value) (l : List Rgt) (w : World) (h : (Rp.sl rgtRp).ok w (· < w.heap.size) [v] l) (hm : l.length ≤ 1000) :
    Calls Tryd.prog 15 #[v] w fun e w' => ∃ v', e = .returned v' ∧ w'.ownsRow w.heap.size 37 9 v' l.length (l.flatMap rgtCells) ∧ Below w.heap.size w w' := by
  obtain ⟨A, c, rfl, hl, hc, h0⟩ := Rp.sl_open h
  cases A with
  | some ad => exact clone_rgt_some ad c l w h hm
  | none =>
    have hc0 := h0 rfl
    have hl0 : l = [] := List.eq_nil_of_length_eq_zero (by omega)
    subst hl0 hc0
    clear h hl hc h0 hm
    have hq : ∀ W : World, (binOp .eql 23 (.slice none 0 0) (.slice none 0 0)).run Tryd.prog W = .ok (.bool true) W := fun W => by kernel_rfl
    go_enter Tryd.func15, Tryd.ntmps15
    go_wp2_with fail
    go_ret
    exact ⟨_, rfl, World.ownsRow_nil _ _ _ _, Below.refl _ _⟩
end Go.Proofs.YtmlhpemgpndppaaDoor
