/-
  What the loops of Repairs keep.
-/
import Derived.Test.YtnkdcmibafjplaaGreatDoorCosts
import Derived.Test.YtnkdcmibafjplaaGreatDoorVTop
import Derived.Test.YtnkdcmibafjplaaGreatDoorSource
import Derived.Test.YtnkdcmibafjplaaGreatDoorMaps
import Derived.Test.YtnkdcmibafjplaaGreatDoorNest
namespace Go.Proofs.YtnkdcmibafjplaaGreatDoor
open Go.RowKit
set_option linter.unusedVariables false
set_option linter.unusedSimpArgs false

theorem rpr_info : (Tryz.prog.info? 106).map (fun i => (i.zero, i.size, i.bytes)) = some (some (.agg #[.string ⟨#[]⟩, .string ⟨#[]⟩, .string ⟨#[]⟩, .int .i64 0]), 4, 56) := by kernel_rfl
theorem rat_val (a q : Nat) (ha : a ≤ 1000000000) : wrap64 ((a : Int) / (q : Int)) = ((a / q : Nat) : Int) := by
  have h := Nat.div_le_self a q
  rw [show ((a : Int) / (q : Int)) = ((a / q : Nat) : Int) from (Int.natCast_ediv a q).symm]
  generalize a / q = d at *
  exact IntWalk.wrap64_in _ ⟨by omega, by omega⟩
theorem site_full {w : World} {S : Nat → Prop} {v : Value} {l : List Site} (h : (Rp.sl siteRp).ok w S [v] l) {k : Nat} (hk : k < l.length) :
    ∃ ad c, v = .slice (some ad) l.length c ∧ S ad.block ∧ w.cell? (ad.add (k * 3)) = some (.string (bstr l[k].name)) ∧ w.cell? ⟨(ad.add (k * 3)).block, (ad.add (k * 3)).off + 1, none⟩ = some (.int .i64 l[k].weight) ∧
      w.cell? ⟨(ad.add (k * 3)).block, (ad.add (k * 3)).off + 2, none⟩ = some (.int .i64 l[k].room) ∧ l[k].name.length ≤ 9223372036854775807 := by
  obtain ⟨A, c, rfl, _⟩ := Rp.sl_open h
  obtain ⟨ad, us, rfl, _, hb, hu, hcell⟩ := Rp.sl_at h hk
  obtain ⟨rfl, hz1⟩ := site_open hu
  have c0 := hcell 0 _ rfl
  have c1 := hcell 1 _ rfl
  have c2 := hcell 2 _ rfl
  rw [add_fld _ _ _ (by omega)] at c1 c2
  unfold maxLen at hz1
  exact ⟨ad, c, rfl, hb, c0, c1, c2, by omega⟩
/-- A row of strings lies outside of a block that holds no string. -/
def NoStr (w : World) (mb : Nat) : Prop := ∀ p : Addr, p.block = mb → ∀ s, w.cell? p ≠ some (.string s)
theorem NoStr.ne {w : World} {mb : Nat} (h : NoStr w mb) {p : Addr} {s : ByteArray} (hc : w.cell? p = some (.string s)) : p.block ≠ mb := fun e => h p e s hc
theorem strs_avoid {w : World} {S : Nat → Prop} {v : Value} {l : List ByteArray} {mb : Nat} (h : (Rp.sl Rp.str).ok w S [v] l) (hm : NoStr w mb) : (Rp.sl Rp.str).ok w (fun k => S k ∧ k ≠ mb) [v] l := by
  obtain ⟨A, c, e, h1, h2, h0, h3⟩ := h
  refine ⟨A, c, e, h1, h2, h0, fun k hk => ?_⟩
  obtain ⟨ad, us, rfl, hb, ho, hc⟩ := h3 k hk
  refine ⟨ad, us, rfl, ⟨hb, ?_⟩, ho, hc⟩
  have hu := ho.1
  have := hm.ne (hc 0 (.string l[k]) (by rw [hu]; rfl))
  rwa [add_block] at this
/-- M: what the counts lie in (block mb). -/
structure RpSt (M : World → List Rpr → Prop) (w0 w4 : World) (mb : Nat) (out cnt : List Rpr) (bad : List (List UInt8)) (vo vb : Value) (w : World) : Prop where
  row : w.ownsRow w4.heap.size 106 4 vo out.length (out.flatMap rprCells)
  bads : w.ownsRow w4.heap.size 9 1 vb bad.length (strs bad)
  map : M w cnt
  keepM : ∀ (a b : World) (c : List Rpr), b.heap[mb]? = a.heap[mb]? → M a c → M b c
  same : Same (fun k => k < w4.heap.size ∧ k ≠ mb) w4 w
  below : Below w0.heap.size w0 w
  le : w4.heap.size ≤ w.heap.size
  mb0 : w0.heap.size ≤ mb
  mb4 : mb < w4.heap.size
section
variable {M : World → List Rpr → Prop} {w0 w4 : World} {mb : Nat} {out cnt : List Rpr} {bad : List (List UInt8)} {vo vb : Value} {w w' : World}
theorem RpSt.next (h : RpSt M w0 w4 mb out cnt bad vo vb w) (hb : Below w.heap.size w w') : RpSt M w0 w4 mb out cnt bad vo vb w' where
  row := own_below h.row hb
  bads := own_below h.bads hb
  map := h.keepM _ _ _ (hb.block mb (Nat.lt_of_lt_of_le h.mb4 h.le)) h.map
  keepM := h.keepM
  same := h.same.trans (fun k hk => hb.block k (Nat.lt_of_lt_of_le hk.1 h.le))
  below := h.below.trans (hb.mono h.below.size)
  le := Nat.le_trans h.le hb.size
  mb0 := h.mb0
  mb4 := h.mb4
theorem own_kept {B B' : Nat} {e e' : TypeId} {sz sz' n n' : Nat} {v v' : Value} {xs xs' : List Value} (h : w.ownsRow B e sz v n xs) (h' : w.ownsRow B' e' sz' v' n' xs') (hne : e ≠ e') (hg : w.grownBy w' v'.ownBlock) : w'.ownsRow B e sz v n xs := by
  refine h.kept hg ?_
  cases hv : v.ownBlock with
  | none => exact .inl rfl
  | some g => exact .inr (fun e => own_ne h h' hne hv e.symm)
theorem own_ge {B : Nat} {e : TypeId} {sz n : Nat} {v : Value} {xs : List Value} (h : w.ownsRow B e sz v n xs) {g : Nat} (hg : v.ownBlock = some g) : B ≤ g := (h.lt g hg).1
theorem RpSt.grow (h : RpSt M w0 w4 mb out cnt bad vo vb w) {vo' : Value} (r : Rpr) (h1 : w'.ownsRow w4.heap.size 106 4 vo' (out.length + 1) (out.flatMap rprCells ++ rprCells r)) (hg : w.grownBy w' vo.ownBlock) : RpSt M w0 w4 mb (out ++ [r]) cnt bad vo' vb w' where
  row := by rw [List.length_append, List.length_singleton, List.flatMap_append, List.flatMap_singleton]; exact h1
  bads := own_kept h.bads h.row (by decide) hg
  map := h.keepM _ _ _ (hg.block mb (Nat.lt_of_lt_of_le h.mb4 h.le) (fun e => by have := own_ge h.row e.symm; have := h.mb4; omega)) h.map
  keepM := h.keepM
  same := h.same.trans (fun k hk => hg.block k (Nat.lt_of_lt_of_le hk.1 h.le) (fun e => by have := own_ge h.row e.symm; omega))
  below := h.below.grown hg (Nat.le_trans h.below.size (Nat.le_refl _)) (fun k e => by have := own_ge h.row e; have := h.mb0; have := h.mb4; omega)
  le := Nat.le_trans h.le hg.size
  mb0 := h.mb0
  mb4 := h.mb4
theorem RpSt.lose (h : RpSt M w0 w4 mb out cnt bad vo vb w) {vb' : Value} (t : List UInt8) (h1 : w'.ownsRow w4.heap.size 9 1 vb' (bad.length + 1) (strs bad ++ [.string (bstr t)])) (hg : w.grownBy w' vb.ownBlock) : RpSt M w0 w4 mb out cnt (bad ++ [t]) vo vb' w' where
  row := own_kept h.row h.bads (by decide) hg
  bads := by rw [strs_app, List.length_append]; exact h1
  map := h.keepM _ _ _ (hg.block mb (Nat.lt_of_lt_of_le h.mb4 h.le) (fun e => by have := own_ge h.bads e.symm; have := h.mb4; omega)) h.map
  keepM := h.keepM
  same := h.same.trans (fun k hk => hg.block k (Nat.lt_of_lt_of_le hk.1 h.le) (fun e => by have := own_ge h.bads e.symm; omega))
  below := h.below.grown hg (Nat.le_trans h.below.size (Nat.le_refl _)) (fun k e => by have := own_ge h.bads e; have := h.mb0; have := h.mb4; omega)
  le := Nat.le_trans h.le hg.size
  mb0 := h.mb0
  mb4 := h.mb4
theorem RpSt.count (h : RpSt M w0 w4 mb out cnt bad vo vb w) {cnt' : List Rpr} (hm : M w' cnt') (hg : w.grownBy w' (some mb)) : RpSt M w0 w4 mb out cnt' bad vo vb w' where
  row := h.row.kept hg (by cases hv : vo.ownBlock with | none => exact .inl rfl | some g => exact .inr (fun e => by injection e with e; have := own_ge h.row hv; have := h.mb4; omega))
  bads := h.bads.kept hg (by cases hv : vb.ownBlock with | none => exact .inl rfl | some g => exact .inr (fun e => by injection e with e; have := own_ge h.bads hv; have := h.mb4; omega))
  map := hm
  keepM := h.keepM
  same := h.same.trans (fun k hk => hg.block k (Nat.lt_of_lt_of_le hk.1 h.le) (fun e => by injection e with e; exact hk.2 e))
  below := h.below.grown hg h.below.size (fun k e => by injection e with e; subst e; exact h.mb0)
  le := Nat.le_trans h.le hg.size
  mb0 := h.mb0
  mb4 := h.mb4
theorem RpSt.blk_grow (h : RpSt M w0 w4 mb out cnt bad vo vb w) {b : Nat} {cs : List Value} (hk : Blk w b 64 cs) (hg : w.grownBy w' vo.ownBlock) : Blk w' b 64 cs :=
  hk.same (grown_same hg) ⟨hk.lt, fun e => by
    obtain ⟨cur, hc⟩ := own_cells h.row e.symm
    unfold Blk at hk
    rw [hk] at hc
    injection hc with hc
    injection hc with _ ht
    exact absurd ht (by decide)⟩
theorem RpSt.blk_count (h : RpSt M w0 w4 mb out cnt bad vo vb w) {b : Nat} {cs : List Value} (hk : Blk w b 64 cs) (hb : w4.heap.size ≤ b) (hg : w.grownBy w' (some mb)) : Blk w' b 64 cs :=
  hk.same (grown_same hg) ⟨hk.lt, fun e => by injection e with e; have := h.mb4; omega⟩
end
theorem RepPost.fail {s : List Site} {l : List Held} {costs : List Cst} {most : Int} {w w' : World} {f : Int} (h : repFault s l costs most = f) (hn : f ≠ 0) (hb : Below w.heap.size w w') : RepPost s l costs most w (.returned (.tuple #[.slice none 0 0, .slice none 0 0, .int .i64 f])) w' := by
  have ho : repOut s l costs most = ([], []) := by rw [repOut, if_neg (by rw [h]; exact hn)]
  refine ⟨_, _, by rw [h], ?_, ?_, hb⟩
  · rw [ho]; exact Rp.sl_nil _ _ _
  · rw [ho]; exact Rp.sl_nil _ _ _
theorem RepPost.done {s : List Site} {l : List Held} {costs : List Cst} {most : Int} {M : World → List Rpr → Prop} {w w4 w' : World} {mb : Nat} {cnt : List Rpr} {vo vb : Value} (h : repFault s l costs most = 0) (hS : RpSt M w w4 mb (repL s costs most (votesOf s l)).1 cnt (repL s costs most (votesOf s l)).2 vo vb w')
    (hz1 : ∀ r ∈ (repL s costs most (votesOf s l)).1, RSz r) (hz2 : ∀ t ∈ (repL s costs most (votesOf s l)).2, t.length ≤ maxLen) : RepPost s l costs most w (.returned (.tuple #[vo, vb, .int .i64 0])) w' := by
  have ho : repOut s l costs most = repL s costs most (votesOf s l) := by rw [repOut, if_pos h]
  refine ⟨_, _, by rw [h], ?_, ?_, hS.below⟩
  · rw [ho]
    exact Rp.of_ownN (R := rprRp) (by decide) (fun _ => rfl) hS.row (fun g hg => (hS.row.lt g hg).2) (fun r hr => rpr_mk (hz1 r hr))
  · rw [ho]
    exact Rp.str_own (by rw [← strs_map]; exact hS.bads) (fun x hx => by obtain ⟨y, hy, rfl⟩ := List.mem_map.1 hx; rw [bstr_size]; exact hz2 y hy) (fun g hg => (hS.bads.lt g hg).2)
end Go.Proofs.YtnkdcmibafjplaaGreatDoor
