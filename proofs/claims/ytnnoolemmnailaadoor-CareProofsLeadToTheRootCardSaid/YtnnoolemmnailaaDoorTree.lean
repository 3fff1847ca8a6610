/-
  'tree' of care: the rows of a tree.
-/
import Derived.Test.YtnnoolemmnailaaDoorProg
import Derived.Test.YtnnoolemmnailaaDoorChunk
import Derived.Test.YtnnoolemmnailaaDoorNode
import Derived.Test.YtnnoolemmnailaaDoorAns
namespace Go.Proofs.YtnnoolemmnailaaDoor
open Go.RowKit
set_option linter.unusedVariables false
set_option linter.unusedSimpArgs false
attribute [local go_sem] Oper.semAt_some

/-- A row of digests. -/
def rowRp : Rp (List Str8) := (Rp.sl Rp.str).via (·.map bstr)
def TreePost (l : List Leaf) (w : World) (e : Ending) (w' : World) : Prop := ∃ v, e = .returned v ∧ (Rp.sl rowRp).ok w' (· < w'.heap.size) [v] (treeOf l) ∧ Below w.heap.size w w'
theorem rowsFrom_cells (xs : List Str8) : strs xs = (xs.map bstr).map .string := by rw [List.map_map]; rfl
theorem push_post {W w4 w9 wr : World} {n₁ B k m : Nat} {v v' v1 v2 : Value} {xs ys : List Value} (hB1 : Below n₁ wr W) (hsz : n₁ ≤ wr.heap.size) (hv : Boxed W n₁ 49 v) (hrow : W.ownsRow n₁ 9 1 v k xs) (h1 : Boxed W (n₁ + 1) 49 v1) (h2 : Boxed W (n₁ + 2) 3 v2)
    (h4 : Below W.heap.size W w4) (hown : w9.ownsRow n₁ 9 1 v' m ys) (hg : w4.grownBy w9 v.ownBlock) :
    (w9.cell? ⟨n₁, 0, none⟩ = some v ∧ w9.frozen? ⟨n₁, 0, none⟩ = false) ∧ KeepsFrom B W (w9.setCell ⟨n₁, 0, none⟩ v') ∧ KeepsBoxes (n₁ + 1) (n₁ + 2) W (w9.setCell ⟨n₁, 0, none⟩ v') ∧
      (((∃ u, Boxed (w9.setCell ⟨n₁, 0, none⟩ v') n₁ 49 u ∧ (w9.setCell ⟨n₁, 0, none⟩ v').ownsRow n₁ 9 1 u m ys ∧ True) ∧ Below n₁ wr (w9.setCell ⟨n₁, 0, none⟩ v')) ∧
        Boxed (w9.setCell ⟨n₁, 0, none⟩ v') (n₁ + 1) 49 v1 ∧ Boxed (w9.setCell ⟨n₁, 0, none⟩ v') (n₁ + 2) 3 v2) := by
  have g4 := below_grown h4
  have hv4 : Boxed w4 n₁ 49 v := hv.kept g4 (by simp)
  have h14 : Boxed w4 (n₁ + 1) 49 v1 := h1.kept g4 (by simp)
  have h24 : Boxed w4 (n₁ + 2) 3 v2 := h2.kept g4 (by simp)
  have hrow4 : w4.ownsRow n₁ 9 1 v k xs := hrow.kept g4 (by cases hvv : v.ownBlock <;> simp)
  have hv9 : Boxed w9 n₁ 49 v := hv4.kept hg (hv4.not_row (by decide) hrow4)
  have h19 : Boxed w9 (n₁ + 1) 49 v1 := h14.kept hg (h14.not_row (by decide) hrow4)
  have h29 : Boxed w9 (n₁ + 2) 3 v2 := h24.kept hg (h24.not_row (by decide) hrow4)
  have hf1 := h19.other (show n₁ + 1 ≠ n₁ by omega) v'
  have hf2 := h29.other (show n₁ + 2 ≠ n₁ by omega) v'
  refine ⟨⟨hv9.cell, hv9.frozen⟩, ?_, fun b hb => ?_, ⟨⟨_, hv9.set v', hown.kept (grownBy_setCell' w9 n₁ v') (.inr (hv9.not_row (by decide) hown).symm), trivial⟩, ?_⟩, hf1, hf2⟩
  · refine (((KeepsOthers.of_grownBy g4 (fun j o e _ => by cases e)).trans (KeepsOthers.of_grownBy hg fun j o ej hj => ?_)).trans (KeepsOthers.setCell _ _ _)).from _
    rcases hrow4.2 with ⟨rfl, _⟩ | ⟨g, cap, cur, rfl, _, hgb, _⟩
    · simp [Value.ownBlock] at ej
    · obtain rfl : g = j := by simpa [Value.ownBlock] using ej
      rw [hgb] at hj; cases hj; rfl
  · rcases hb with rfl | rfl
    · exact Eq.trans hf1 (Eq.symm h1)
    · exact Eq.trans hf2 (Eq.symm h2)
  · have hw4 := hB1.trans (h4.mono (by have := hB1.size; omega))
    refine (hw4.grown hg (by have := hw4.size; omega) fun j ej => ?_).setCell (p := ⟨n₁, 0, none⟩) (Nat.le_refl _) v'
    rcases hrow4.2 with ⟨rfl, _⟩ | ⟨g, cap, cur, rfl, hb, _, _⟩
    · simp [Value.ownBlock] at ej
    · obtain rfl : g = j := by simpa [Value.ownBlock] using ej
      exact hb
theorem rows_info : (Tryd.prog.info? 49).map (fun i => (i.zero, i.size, i.bytes)) = some (some (.slice none 0 0), 1, 24) := by kernel_rfl
theorem own_base {w : World} {B B' : Nat} {e : TypeId} {size n : Nat} {v : Value} {xs : List Value} (h : w.ownsRow B e size v n xs) (hB : B' ≤ B) : w.ownsRow B' e size v n xs := by
  obtain ⟨h1, h2⟩ := h
  refine ⟨h1, ?_⟩
  rcases h2 with h2 | ⟨g, cap, cur, e1, hb, rest⟩
  · exact .inl h2
  · exact .inr ⟨g, cap, cur, e1, Nat.le_trans hB hb, rest⟩
theorem ne_mark {w : World} {B : Nat} {e : TypeId} {size n d : Nat} {v : Value} {xs : List Value} (hd : w.heap[d]? = some (.deferred (some []))) (h : w.ownsRow B e size v n xs) : some d ≠ v.ownBlock := fun e => by
  obtain ⟨o, ho, hc⟩ := own_cellB h e.symm
  rw [hd] at ho
  cases ho
  cases hc
theorem str_cell {w : World} {S : Nat → Prop} {ad : Addr} {n c : Nat} {l : List Str8} (h : (Rp.sl Rp.str).ok w S [.slice (some ad) n c] (l.map bstr)) {k : Nat} (hk : k < l.length) : w.cell? (ad.add k) = some (.string (bstr l[k])) := by
  obtain ⟨ad1, u1, e1, _, hu1, hcell1⟩ := Rp.sl_at1 rfl h (k := k) (by rw [List.length_map]; omega)
  cases e1
  obtain ⟨e2, _⟩ := hu1
  rw [hcell1]
  rw [List.getElem_map] at e2
  injection e2 with e2
  rw [e2]
theorem row_read {w : World} {B : Nat} {v : Value} {r : List Str8} (h : w.ownsRow B 9 1 v r.length (strs r)) (hx : ∀ x ∈ r, x.length ≤ maxLen) {S : Nat → Prop} (hS : ∀ g, v.ownBlock = some g → S g) : rowRp.ok w S [v] r := by
  have h' : w.ownsRow B 9 1 v (r.map bstr).length ((r.map bstr).map .string) := by rw [List.length_map, ← rowsFrom_cells]; exact h
  exact Rp.str_own h' (fun y hy => by obtain ⟨x, hx', rfl⟩ := List.mem_map.1 hy; rw [bstr_size]; exact hx x hx') hS
theorem rowsC_one {w : World} {B : Nat} {v : Value} {r : List Str8} (hB : B ≤ w.heap.size) (h : (w.alloc (.cells #[v] 49)).ownsRow B 9 1 v r.length (strs r)) (hx : ∀ x ∈ r, x.length ≤ maxLen) (hlt : ∀ g, v.ownBlock = some g → g < w.heap.size) :
    RowsC rowRp 49 B (w.alloc (.cells #[v] 49)) (.slice (some ⟨w.heap.size, 0, none⟩) 1 1) ([] ++ [r]) := by
  refine ⟨[v], World.ownsRow_lit (size := 1) w #[v] 1 hB (by unfold maxLen; omega) rfl, fun k hk => ?_⟩
  obtain rfl : k = 0 := by simpa using hk
  exact row_read h hx (fun g hg => ⟨own_cellB h hg, fun e => by have h1 := hlt g hg; have h2 : w.heap.size = g := Option.some.inj e; omega⟩)
set_option maxRecDepth 100000 in
set_option maxHeartbeats 4000000 in
theorem tree_any (v0 : Value) (l : List Leaf) (w : World) (h0 : (Rp.sl leafRp).ok w (· < w.heap.size) [v0] l) (hl3 : l.length ≤ 1000) (hks : ∀ x ∈ l, x.key.length ≤ 100000 ∧ x.digest.length ≤ 100000) :
    Calls Tryd.prog 66 #[v0] w (TreePost l w) := by
  obtain ⟨A, c, rfl, hl, hc, _⟩ := Rp.sl_open h0
  unfold maxLen at hc
  have H0 := Lib.hid h0
  have HKS := Lib.hid hks
  clear h0 hks
  by_cases hnil : l = []
  · subst hnil
    have HP := Lib.hid (show TreePost [] w (.returned (.slice none 0 0)) w from ⟨_, rfl, Rp.sl_nil _ _ _, Below.refl _ _⟩)
    go_enter Tryd.func66, Tryd.ntmps66
    go_wp2_with fail
    go_ret
    exact HP.out
  have hl0 : 0 < l.length := List.length_pos_iff.2 hnil
  have hl1 : ((l.length : Int) == 0) = false := by rw [beq_eq_false_iff_ne]; omega
  refine callsIn_wide.1 (callsIn_of_wp_marks (n := 9) Tryd.func66 rfl trivial ?_ rfl)
  simp only [Tryd.ntmps66, List.size_toArray, List.length_cons, List.length_nil, Nat.reduceAdd, Nat.reduceSub, Array.replicate_succ, Array.replicate_zero, List.push_toArray, List.append_toArray, List.nil_append, List.cons_append]
  refine wpIn_wide.2 ?_
  go_wp2_with fail
  go_loopw [3, 14] (fun vr i wr => ∃ k : Nat, k ≤ l.length ∧ i = .int .i64 k ∧ Hid (wr.ownsRow w.heap.size 9 1 vr k (strs ((l.take k).map leafD))) ∧ Hid (Below w.heap.size w wr)) (fun _ i _ => l.length - (intOf i).toNat)
  case atStart => exact ⟨0, by omega, rfl, World.ownsRow_nil _ _ _ _, Below.refl _ _⟩
  case round =>
    obtain ⟨k, hk, rfl, HO, HB⟩ := hrel
    by_cases hlt : k < l.length
    · obtain ⟨ad, us, rfl, _, hadb, hu, hcell⟩ := Rp.sl_at (Rp.below _ H0.out HB.out) hlt
      obtain ⟨rfl, hz1, hz2⟩ := leaf_open hu
      have c0 := hcell 0 _ rfl
      rw [Nat.add_zero] at c0
      change World.cell? _ (ad.add (k * 2)) = some (.string (bstr l[k].key)) at c0
      have c1 := hcell 1 _ rfl
      rw [add_fld _ _ _ (by omega)] at c1
      change World.cell? _ ⟨(ad.add (k * 2)).block, (ad.add (k * 2)).off + 1, none⟩ = some (.string (bstr l[k].digest)) at c1
      have hx := HKS.out l[k] (List.getElem_mem hlt)
      have HST : Hid ((l.take (k + 1)).map leafD = (l.take k).map leafD ++ [leafD l[k]]) := Lib.hid (by rw [List.take_succ_eq_append_getElem hlt, List.map_append]; rfl)
      clear hcell hu hadb hz1 hz2
      obtain ⟨A5, c5, rfl, _⟩ := own_form HO.out
      generalize l[k] = x at *
      generalize (l.take k).map leafD = r0 at *
      have HBA := Lib.hid (HB.out.alloc HB.out.size (.cells #[.string (bstr x.key), .string (bstr x.digest)] 33))
      have HOA := Lib.hid (HO.out.alloc (.cells #[.string (bstr x.key), .string (bstr x.digest)] 33))
      have hkb := Blk.new wr 33 [.string (bstr x.key), .string (bstr x.digest)]
      have k0 : _ = some (Value.string (bstr x.key)) := hkb.cell 0
      have k1 : _ = some (Value.string (bstr x.digest)) := hkb.cell 1
      clear hkb HO
      go_wp2_with fail
      refine (leafDigest_any x _ hx.1 hx.2).mono ?_
      rintro e w2 ⟨rfl, hb2⟩
      have HB2 := Lib.hid (HBA.out.trans (hb2.mono HBA.out.size))
      have HO2 := Lib.hid (HOA.out.kept (below_grown hb2) (by cases hvv : (Value.slice A5 k c5).ownBlock <;> simp))
      have hs2 := HB2.out.size
      clear hb2 HOA HBA k0 k1
      go_wp2_with (at_builtin; refine app_str rfl (.tmp 18) (.tmp 21) rfl HO2.out hs2 rfl rfl (by omega) ?_; intro g1 cc1 w9 HO9 HG9 HB9 HL9)
      go_roundw
      case rel =>
        exact ⟨k + 1, by omega, by go_num, by rw [HST.out, strs_app]; exact HO9.out, HB9.out _ HB2.out⟩
      case measure => simp [intOf]; omega
    · obtain rfl : k = l.length := by omega
      rw [List.take_length] at *
      obtain ⟨A5, c5, rfl, _⟩ := own_form HO.out
      have hw1 := (Below.refl wr.heap.size wr).alloc (Nat.le_refl _) (.cells #[.slice A5 l.length c5] 49)
      have HB1 := Lib.hid (HB.out.alloc HB.out.size (.cells #[.slice A5 l.length c5] 49))
      have HR0 : Hid ((wr.alloc (.cells #[.slice A5 l.length c5] 49)).ownsRow w.heap.size 9 1 (.slice A5 l.length c5) (l.map leafD).length (strs (l.map leafD))) := Lib.hid (by rw [List.length_map]; exact HO.out.alloc _)
      have HRC : Hid (RowsC rowRp 49 w.heap.size (wr.alloc (.cells #[.slice A5 l.length c5] 49)) (.slice (some ⟨wr.heap.size, 0, none⟩) 1 1) ([] ++ [l.map leafD])) := Lib.hid (rowsC_one HB.out.size HR0.out (fun x hx => by obtain ⟨y, _, rfl⟩ := List.mem_map.1 hx; rw [leafD_len]; unfold maxLen; omega) (by rcases own_form HO.out with ⟨_, _, _, _, _, h⟩; exact fun g hg => (h g hg).2))
      go_wp2_with fail
      refine wp_loop (fun (a : Act) (wr : World) => ∃ (vr vo : Value) (s0 s1 s2 s4 s5 s7 s8 s9 s10 s11 s12 s13 s14 s15 s16 s17 s18 s19 s20 s21 s22 s23 s24 s25 s26 s27 s28 s29 s30 s31 s32 s33 s34 s35 s36 s37 s38 s39 s40 s41 s42 s43 s44 s45 s46 s47 s48 s49 s50 s51 s52 s53 s54 s55 s56 : Value) (pre : List (List Str8)) (r : List Str8) (D : List Nat), a = { tmps := #[s0, s1, s2, vr, s4, s5, vo, s7, s8, s9, s10, s11, s12, s13, s14, s15, s16, s17, s18, s19, s20, s21, s22, s23, s24, s25, s26, s27, s28, s29, s30, s31, s32, s33, s34, s35, s36, s37, s38, s39, s40, s41, s42, s43, s44, s45, s46, s47, s48, s49, s50, s51, s52, s53, s54, s55, s56], defers := D.map markOf } ∧
              r ≠ [] ∧ pre.length + r.length ≤ 1000 ∧ Hid (pre ++ rowsFrom r = treeOf l) ∧ Hid (wr.ownsRow w.heap.size 9 1 vr r.length (strs r)) ∧ Hid (RowsC rowRp 49 w.heap.size wr vo (pre ++ [r])) ∧ Hid (D.Nodup) ∧
              Hid (∀ d ∈ D, w.heap.size ≤ d ∧ wr.heap[d]? = some (.deferred (some []))) ∧ Hid (∀ x ∈ r, x.length = 16) ∧ Hid (Below w.heap.size w wr)) (fun a _ => sliceLen (a.tmps.getD 3 undef)) ?_ ?_
      · refine ⟨_, _, _, _, _, _, _, _, _, _, _, _, _, _, _, _, _, _, _, _, _, _, _, _, _, _, _, _, _, _, _, _, _, _, _, _, _, _, _, _, _, _, _, _, _, _, _, _, _, _, _, _, _, _, _, _, _, [], l.map leafD, [], rfl, by simpa using hnil, by simpa using hl3, Lib.hid (by rw [treeOf_some hnil]; rfl), Lib.hid HR0.out, Lib.hid HRC.out, Lib.hid List.nodup_nil, Lib.hid (fun d hd => by cases hd), Lib.hid (fun x hx => by obtain ⟨y, _, rfl⟩ := List.mem_map.1 hx; exact leafD_len y), Lib.hid HB1.out⟩
      clear HO HR0 HRC HB1 hk hlt
      rintro a wr ⟨vr, vo, s0, s1, s2, s4, s5, s7, s8, s9, s10, s11, s12, s13, s14, s15, s16, s17, s18, s19, s20, s21, s22, s23, s24, s25, s26, s27, s28, s29, s30, s31, s32, s33, s34, s35, s36, s37, s38, s39, s40, s41, s42, s43, s44, s45, s46, s47, s48, s49, s50, s51, s52, s53, s54, s55, s56, pre, r, D, rfl, hr0, hsz, HT, HR, HC, HD, HDD, HX, HB⟩
      obtain ⟨Ar, cr, rfl, hcr, hcm, _⟩ := own_form HR.out
      obtain ⟨Ao, co, rfl, hco, hcom, _⟩ := HC.out.form
      by_cases hr1 : r.length ≤ 1
      · have hr2 : ¬ (1 : Int) < (r.length : Int) := by omega
        go_wp2_with fail
        have htr : treeOf l = pre ++ [r] := by rw [← HT.out, rowsFrom_one hr1]
        show LeavesInM _ _ _ _ _ _ (D.map markOf) .returning _
        refine leaves_marks (B := w.heap.size) D wr HD.out HDD.out (fun w' hs hb => ?_)
        refine ⟨_, results_tmp rfl _ _ _, _, rfl, ?_, HB.out.trans hb⟩
        rw [htr]
        have := HC.out.read (by decide) hs hb.size
        rw [List.length_append] at this
        exact this
      · have hr2 : (1 : Int) < (r.length : Int) := by omega
        have hrr : (Rp.sl Rp.str).ok wr (· < wr.heap.size) [.slice Ar r.length cr] (r.map bstr) := row_read HR.out (fun x hx => by rw [HX.out x hx]; unfold maxLen; omega) (fun g hg => (HR.out.lt g hg).2)
        obtain ⟨ad, rfl⟩ : ∃ ad, Ar = some ad := by
          rcases Rp.sl_some (R := Rp.str) hrr (by rw [List.length_map]; omega) with ⟨ad, h⟩
          rcases h with ⟨h, _⟩ | h
          · exact ⟨ad, h⟩
          · cases h
        have HRR := Lib.hid hrr
        clear hrr
        go_wp2_with fail
        refine (chunk_any _ _ _ _).mono ?_
        rintro e ws ⟨rfl, hws⟩
        rw [World.size_alloc]
        have bN : Boxed ws wr.heap.size 49 (.slice none 0 0) := by rw [hws]; exact ((Boxed.new wr _ _).alloc _).alloc _
        have bS : Boxed ws (wr.heap.size + 1) 49 (.slice (some ad) r.length cr) := by
          rw [hws]
          have := Boxed.new (wr.alloc (.cells #[.slice none 0 0] 49)) 49 (.slice (some ad) r.length cr)
          rw [World.size_alloc] at this
          exact this.alloc _
        have bT : Boxed ws (wr.heap.size + 2) 3 (.int .i64 2) := by
          rw [hws]
          have := Boxed.new ((wr.alloc (.cells #[.slice none 0 0] 49)).alloc (.cells #[.slice (some ad) r.length cr] 49)) 3 (.int .i64 2)
          rw [World.size_alloc, World.size_alloc] at this
          exact this
        have hss : ws.heap.size = wr.heap.size + 3 := by rw [hws]; simp
        have hbw : Below wr.heap.size wr ws := by rw [hws]; exact (((Below.refl _ wr).alloc (Nat.le_refl _) _).alloc (by simp) _).alloc (by simp; omega) _
        have HBW := Lib.hid hbw
        have HBN := Lib.hid bN
        have HBS := Lib.hid bS
        have HBT := Lib.hid bT
        clear hws bN bS bT hbw
        go_wp2_with fail
        refine (wpIn_wide (n := 9)).1 ?_
        refine wpIn_rangeFunc_ownG rfl (by omega) (gf := 159) (lb := #[.pointer (some ⟨wr.heap.size + 1, 0, none⟩), .pointer (some ⟨wr.heap.size + 2, 0, none⟩)]) rfl trivial (enters_of Tryd.func159 (by kernel_rfl) rfl)
          (chunk_stops (9 - 1) (wr.heap.size + 1) (wr.heap.size + 2) r.length cr ad (by omega) hcr hcm ws (by omega) (by omega) HBS.out.cell HBT.out.cell) Same.trans (fun W lb o o' hle _ _ _ => fun b hb => World.putObj_heap_other (by rcases hb with rfl | rfl <;> omega)) (Below.refl _ _) (fun _ => rfl)
          (fun ps W => ((∃ v, Boxed W wr.heap.size 49 v ∧ W.ownsRow wr.heap.size 9 1 v ps.length (strs (ps.map fun j => (up r).getD j.1 [])) ∧ True) ∧ Below wr.heap.size wr W) ∧ (Boxed W (wr.heap.size + 1) 49 (.slice (some ad) r.length cr) ∧ Boxed W (wr.heap.size + 2) 3 (.int .i64 2)))
          (fun _ _ _ => False)
          (OwnFrom.and (OwnFrom.and (Own.from (holdsRow_own wr.heap.size wr.heap.size 49 9 1 (fun (ps : List (ChunkNo r.length)) => ps.length) (fun ps => strs (ps.map fun j => (up r).getD j.1 [])) (fun _ _ => True)) _) (ownFrom_below (Nat.le_refl _) (by omega)))
            (OwnFrom.and (Own.from (boxed_own _ _ (fun _ => .slice (some ad) r.length cr)) _) (Own.from (boxed_own _ _ (fun _ => .int .i64 2)) _)))
          (fun _ _ _ _ _ hs _ _ => hs)
          ⟨⟨⟨_, HBN.out, World.ownsRow_nil _ _ _ _, trivial⟩, HBW.out⟩, HBS.out, HBT.out⟩
          (fun x => { tmps := #[s0, s1, s2, .slice (some ad) r.length cr, s4, s5, .slice Ao (pre.length + 1) co, .pointer (some ⟨wr.heap.size, 0, none⟩), chunkV ad r.length x.1, s9, s10, s11, s12, s13, s14, s15, s16, s17, s18, s19, s20, s21, s22, s23, s24, s25, .slice (some ad) r.length cr, .int .i64 r.length, .bool true, .slice (some ad) r.length cr, .func (.func 159) #[] #[.pointer (some ⟨wr.heap.size + 1, 0, none⟩), .pointer (some ⟨wr.heap.size + 2, 0, none⟩)], chunkV ad r.length x.1, s32, s33, s34, s35, s36, s37, s38, s39, s40, s41, s42, s43, s44, s45, s46, s47, s48, s49, s50, s51, s52, s53, s54, s55, s56], defers := [] }) ?assign ?body ?done ?stop
        case assign =>
          intro l x W K hK
          by_cases hp : 2 * x.1 + 1 < r.length
          · rw [show chunkV ad r.length x.1 = .slice (some (ad.add (2 * x.1))) 2 2 from if_pos hp] at hK ⊢
            gi_wp2
            exact hK
          · rw [show chunkV ad r.length x.1 = .slice (some (ad.add (2 * x.1))) 1 1 from if_neg hp] at hK ⊢
            gi_wp2
            exact hK
        case body =>
          rintro l ps x W ⟨⟨⟨v, hv, hrow, _⟩, hB⟩, hS1, hS2⟩ hlt
          have HRW := Lib.hid (Rp.below _ HRR.out hB)
          have hc0 := hv.cell
          have hf0 := hv.frozen
          have HV := Lib.hid hv
          have HROW := Lib.hid hrow
          have HB1 := Lib.hid hB
          have HS1 := Lib.hid hS1
          have HS2 := Lib.hid hS2
          clear hv hrow hB hS1 hS2
          have hm : Tryd.prog.follows .mixedOrders = true := by kernel_rfl
          by_cases hp : 2 * x.1 + 1 < r.length
          · rw [show chunkV ad r.length x.1 = .slice (some (ad.add (2 * x.1))) 2 2 from if_pos hp]
            have hk1 := str_cell HRW.out (k := 2 * x.1) (by omega)
            have hk2 := str_cell HRW.out (k := 2 * x.1 + 1) hp
            dsimp only
            have hx1 := HX.out r[2 * x.1] (List.getElem_mem _)
            have hx2 := HX.out r[2 * x.1 + 1] (List.getElem_mem _)
            have HUP : Hid ((up r).getD x.1 [] = nodeD r[2 * x.1] r[2 * x.1 + 1]) := Lib.hid (by rw [getD_lt _ _ _ (by rw [up_len]; omega), up_two r x.1 hp])
            obtain ⟨da, hda0⟩ : ∃ d, d = r[2 * x.1] := ⟨_, rfl⟩
            obtain ⟨db, hdb0⟩ : ∃ d, d = r[2 * x.1 + 1] := ⟨_, rfl⟩
            rw [← hda0] at hk1 hx1 HUP
            rw [← hdb0] at hk2 hx2 HUP
            rw [add_fld _ _ _ (by omega)] at hk2
            clear hda0 hdb0
            have hda : da.length ≤ 100000 := by omega
            have hdb : db.length ≤ 100000 := by omega
            have hlt0 := HV.out.lt
            have hps : ps.length ≤ 1000 := by omega
            have HS : Hid (∀ w', Below wr.heap.size wr w' → w'.cell? (ad.add (2 * x.1)) = some (.string (bstr da)) ∧ w'.cell? ⟨(ad.add (2 * x.1)).block, (ad.add (2 * x.1)).off + 1, none⟩ = some (.string (bstr db))) := Lib.hid (fun w' h' => by
              have hbl : (ad.add (2 * x.1)).block < wr.heap.size := World.block_lt_of_cell? wr _ (str_cell HRR.out (k := 2 * x.1) (by omega))
              exact ⟨(h'.cell hbl).trans ((HB1.out.cell hbl).symm.trans hk1), (h'.cell (p := ⟨(ad.add (2 * x.1)).block, (ad.add (2 * x.1)).off + 1, none⟩) hbl).trans ((HB1.out.cell (p := ⟨(ad.add (2 * x.1)).block, (ad.add (2 * x.1)).off + 1, none⟩) hbl).symm.trans hk2)⟩)
            gi_wp2
            refine region_round (S := fun w' => w'.cell? (ad.add (2 * x.1)) = some (.string (bstr da)) ∧ w'.cell? ⟨(ad.add (2 * x.1)).block, (ad.add (2 * x.1)).off + 1, none⟩ = some (.string (bstr db))) hm (notDefer_all (by kernel_rfl)) (fun h => by obtain ⟨_, _, h⟩ := h; exact h) ⟨hk1, hk2⟩ (fun hHeld => ?_)
            refine wpAnyH_take (i := 1) (v := ?_) rfl (by kernel_rfl) (by kernel_rfl) (by kernel_rfl) (fun _ _ _ h => h) (Or.inl ⟨by rfl, ?_⟩) (by assumption) ?_
            rotate_left
            · (intro w hSw; (try dsimp only at hSw); go_simp; try with_reducible rfl)
            try simp only [List.getElem_toArray, List.getElem_cons_succ, List.getElem_cons_zero, Act.put, List.setIfInBounds_toArray, List.set_cons_zero, List.set_cons_succ]
            refine wpAnyH_take (i := 2) (v := ?_) rfl (by kernel_rfl) (by kernel_rfl) (by kernel_rfl) (fun _ _ _ h => h) (Or.inl ⟨by rfl, ?_⟩) (by assumption) ?_
            rotate_left
            · (intro w hSw; (try dsimp only at hSw); go_simp; try with_reducible rfl)
            try simp only [List.getElem_toArray, List.getElem_cons_succ, List.getElem_cons_zero, Act.put, List.setIfInBounds_toArray, List.set_cons_zero, List.set_cons_succ]
            refine wpAnyH_take (i := 3) (v := ?_) rfl (by kernel_rfl) (by kernel_rfl) (by kernel_rfl) (fun _ _ _ h => h) (Or.inl ⟨by rfl, ?_⟩) (by assumption) ?_
            rotate_left
            · (intro w hSw; (try dsimp only at hSw); go_simp; try with_reducible rfl)
            try simp only [List.getElem_toArray, List.getElem_cons_succ, List.getElem_cons_zero, Act.put, List.setIfInBounds_toArray, List.set_cons_zero, List.set_cons_succ]
            refine wpAnyH_take (i := 4) (v := ?_) rfl (by kernel_rfl) (by kernel_rfl) (by kernel_rfl) (fun _ _ _ h => h) (Or.inl ⟨by rfl, ?_⟩) (by assumption) ?_
            rotate_left
            · (intro w hSw; (try dsimp only at hSw); go_simp; try with_reducible rfl)
            try simp only [List.getElem_toArray, List.getElem_cons_succ, List.getElem_cons_zero, Act.put, List.setIfInBounds_toArray, List.set_cons_zero, List.set_cons_succ]
            refine wpAnyH_take (i := 5) (v := ?_) rfl (by kernel_rfl) (by kernel_rfl) (by kernel_rfl) (fun _ _ _ h => h) (Or.inl ⟨by rfl, ?_⟩) (by assumption) ?_
            rotate_left
            · (intro w hSw; (try dsimp only at hSw); go_simp; try with_reducible rfl)
            try simp only [List.getElem_toArray, List.getElem_cons_succ, List.getElem_cons_zero, Act.put, List.setIfInBounds_toArray, List.set_cons_zero, List.set_cons_succ]
            refine wpAnyH_take (i := 6) (v := ?_) rfl (by kernel_rfl) (by kernel_rfl) (by kernel_rfl) (fun _ _ _ h => h) (Or.inl ⟨by rfl, ?_⟩) (by assumption) ?_
            rotate_left
            · (intro w hSw; (try dsimp only at hSw); go_simp; try with_reducible rfl)
            try simp only [List.getElem_toArray, List.getElem_cons_succ, List.getElem_cons_zero, Act.put, List.setIfInBounds_toArray, List.set_cons_zero, List.set_cons_succ]
            refine wpAnyH_ready (rs := [0, 7]) (by kernel_rfl) (by simp) ?_
            refine AllReadyH.cons rfl (fun K hK => ?_) (AllReadyH.cons rfl (fun K hK => ?_) AllReadyH.nil)
            · rw [if_pos (by rfl)]
              simp only [List.getElem_toArray, List.getElem_cons_succ, List.getElem_cons_zero]
              go_simp
              refine hK.out _ _ hHeld (fun hHeld => ?_)
              clear hK K
              try simp only [List.getElem_toArray, List.getElem_cons_succ, List.getElem_cons_zero, Act.put, List.setIfInBounds_toArray, List.set_cons_zero, List.set_cons_succ]
              refine wpAnyH_ready (rs := [7]) (by kernel_rfl) (by simp) ?_
              refine AllReadyH.cons rfl (fun K hK => ?_) AllReadyH.nil
              rw [if_pos (by rfl)]
              simp only [List.getElem_toArray, List.getElem_cons_succ, List.getElem_cons_zero]
              go_simp
              go_at_call 71
              refine (node_any da db _ hda hdb).mono ?_
              rintro e w4 ⟨rfl, hb4⟩
              have HB4 := Lib.hid (((Below.refl W.heap.size W).drew).trans hb4)
              have hc4 : w4.cell? ⟨wr.heap.size, 0, none⟩ = some v := (hb4.cell hlt0).trans hc0
              have HB5 := Lib.hid (HB1.out.trans (HB4.out.mono (by omega)))
              show K _ w4
              refine hK.out _ _ (HS.out _ HB5.out) (fun hHeld => ?_)
              clear hK K
              try simp only [List.getElem_toArray, List.getElem_cons_succ, List.getElem_cons_zero, Act.put, List.setIfInBounds_toArray, List.set_cons_zero, List.set_cons_succ]
              have hs4 : wr.heap.size ≤ w4.heap.size := HB5.out.size
              have HO4 := Lib.hid (HROW.out.kept (below_grown HB4.out) (by cases hvv : v.ownBlock <;> simp))
              clear hb4
              refine wpAnyH_ready (rs := [8]) (by kernel_rfl) (by simp) ?_
              refine AllReadyH.cons rfl (fun K hK => ?_) AllReadyH.nil
              have hcA := (World.cell?_alloc_lt w4 (.cells #[.string (bstr (nodeD da db))] 9) ⟨wr.heap.size, 0, none⟩ (World.block_lt_of_cell? w4 _ hc4)).trans hc4
              rw [if_pos (by rfl)]
              simp only [List.getElem_toArray, List.getElem_cons_succ, List.getElem_cons_zero]
              go_simp
              refine hK.out _ _ (HS.out _ (HB5.out.alloc hs4 _)) (fun hHeld => ?_)
              clear hK K
              try simp only [List.getElem_toArray, List.getElem_cons_succ, List.getElem_cons_zero, Act.put, List.setIfInBounds_toArray, List.set_cons_zero, List.set_cons_succ]
              refine wpAnyH_ready (rs := [9]) (by kernel_rfl) (by simp) ?_
              refine AllReadyH.cons rfl (fun K hK => ?_) AllReadyH.nil
              refine step_app_str w4 (by rfl) (.tmp 35) (.tmp 43) (by rfl) 0 rfl HO4.out hs4 rfl rfl (by omega) ?_
              intro g1 cc1 w9 HO9 HG9 HB9 HL9
              have HPP := Lib.hid (push_post (B := ws.heap.size) HB1.out (Nat.le_refl _) HV.out HROW.out HS1.out HS2.out HB4.out HO9.out HG9.out)
              have hc9 := HPP.out.1.1
              have hf9 := HPP.out.1.2
              refine hK.out _ _ (HS.out _ (HB9.out _ HB5.out)) (fun hHeld => ?_)
              clear hK K
              try simp only [List.getElem_toArray, List.getElem_cons_succ, List.getElem_cons_zero, Act.put, List.setIfInBounds_toArray, List.set_cons_zero, List.set_cons_succ]
              refine wpAnyH_ready (rs := [10]) (by kernel_rfl) (by simp) ?_
              refine AllReadyH.cons rfl (fun K hK => ?_) AllReadyH.nil
              rw [if_pos (by rfl)]
              simp only [List.getElem_toArray, List.getElem_cons_succ, List.getElem_cons_zero]
              go_simp
              refine hK.out _ _ (HS.out _ ((HB9.out _ HB5.out).setCell (p := ⟨wr.heap.size, 0, none⟩) (Nat.le_refl _) _)) (fun hHeld => ?_)
              clear hK K
              try simp only [List.getElem_toArray, List.getElem_cons_succ, List.getElem_cons_zero, Act.put, List.setIfInBounds_toArray, List.set_cons_zero, List.set_cons_succ]
              refine wpAnyH_done (by kernel_rfl) ?_ _
              show _ ∧ _ ∧ _
              refine ⟨HPP.out.2.1, HPP.out.2.2.1, ?_⟩
              have hpp := HPP.out.2.2.2
              rw [← HUP.out] at hpp
              dsimp only
              rw [List.length_append, List.map_append, strs_app]
              exact hpp
            · rw [if_pos (by rfl)]
              simp only [List.getElem_toArray, List.getElem_cons_succ, List.getElem_cons_zero]
              go_simp
              go_at_call 71
              refine (node_any da db _ hda hdb).mono ?_
              rintro e w4 ⟨rfl, hb4⟩
              have HB4 := Lib.hid (((Below.refl W.heap.size W).drew).trans hb4)
              have hc4 : w4.cell? ⟨wr.heap.size, 0, none⟩ = some v := (hb4.cell hlt0).trans hc0
              have HB5 := Lib.hid (HB1.out.trans (HB4.out.mono (by omega)))
              show K _ w4
              refine hK.out _ _ (HS.out _ HB5.out) (fun hHeld => ?_)
              clear hK K
              try simp only [List.getElem_toArray, List.getElem_cons_succ, List.getElem_cons_zero, Act.put, List.setIfInBounds_toArray, List.set_cons_zero, List.set_cons_succ]
              have hs4 : wr.heap.size ≤ w4.heap.size := HB5.out.size
              have HO4 := Lib.hid (HROW.out.kept (below_grown HB4.out) (by cases hvv : v.ownBlock <;> simp))
              clear hb4
              refine wpAnyH_ready (rs := [0, 8]) (by kernel_rfl) (by simp) ?_
              refine AllReadyH.cons rfl (fun K hK => ?_) (AllReadyH.cons rfl (fun K hK => ?_) AllReadyH.nil)
              · rw [if_pos (by rfl)]
                simp only [List.getElem_toArray, List.getElem_cons_succ, List.getElem_cons_zero]
                go_simp
                refine hK.out _ _ hHeld (fun hHeld => ?_)
                clear hK K
                try simp only [List.getElem_toArray, List.getElem_cons_succ, List.getElem_cons_zero, Act.put, List.setIfInBounds_toArray, List.set_cons_zero, List.set_cons_succ]
                refine wpAnyH_ready (rs := [8]) (by kernel_rfl) (by simp) ?_
                refine AllReadyH.cons rfl (fun K hK => ?_) AllReadyH.nil
                have hcA := (World.cell?_alloc_lt w4 (.cells #[.string (bstr (nodeD da db))] 9) ⟨wr.heap.size, 0, none⟩ (World.block_lt_of_cell? w4 _ hc4)).trans hc4
                rw [if_pos (by rfl)]
                simp only [List.getElem_toArray, List.getElem_cons_succ, List.getElem_cons_zero]
                go_simp
                refine hK.out _ _ (HS.out _ (HB5.out.alloc hs4 _)) (fun hHeld => ?_)
                clear hK K
                try simp only [List.getElem_toArray, List.getElem_cons_succ, List.getElem_cons_zero, Act.put, List.setIfInBounds_toArray, List.set_cons_zero, List.set_cons_succ]
                refine wpAnyH_ready (rs := [9]) (by kernel_rfl) (by simp) ?_
                refine AllReadyH.cons rfl (fun K hK => ?_) AllReadyH.nil
                refine step_app_str w4 (by rfl) (.tmp 35) (.tmp 43) (by rfl) 0 rfl HO4.out hs4 rfl rfl (by omega) ?_
                intro g1 cc1 w9 HO9 HG9 HB9 HL9
                have HPP := Lib.hid (push_post (B := ws.heap.size) HB1.out (Nat.le_refl _) HV.out HROW.out HS1.out HS2.out HB4.out HO9.out HG9.out)
                have hc9 := HPP.out.1.1
                have hf9 := HPP.out.1.2
                refine hK.out _ _ (HS.out _ (HB9.out _ HB5.out)) (fun hHeld => ?_)
                clear hK K
                try simp only [List.getElem_toArray, List.getElem_cons_succ, List.getElem_cons_zero, Act.put, List.setIfInBounds_toArray, List.set_cons_zero, List.set_cons_succ]
                refine wpAnyH_ready (rs := [10]) (by kernel_rfl) (by simp) ?_
                refine AllReadyH.cons rfl (fun K hK => ?_) AllReadyH.nil
                rw [if_pos (by rfl)]
                simp only [List.getElem_toArray, List.getElem_cons_succ, List.getElem_cons_zero]
                go_simp
                refine hK.out _ _ (HS.out _ ((HB9.out _ HB5.out).setCell (p := ⟨wr.heap.size, 0, none⟩) (Nat.le_refl _) _)) (fun hHeld => ?_)
                clear hK K
                try simp only [List.getElem_toArray, List.getElem_cons_succ, List.getElem_cons_zero, Act.put, List.setIfInBounds_toArray, List.set_cons_zero, List.set_cons_succ]
                refine wpAnyH_done (by kernel_rfl) ?_ _
                show _ ∧ _ ∧ _
                refine ⟨HPP.out.2.1, HPP.out.2.2.1, ?_⟩
                have hpp := HPP.out.2.2.2
                rw [← HUP.out] at hpp
                dsimp only
                rw [List.length_append, List.map_append, strs_app]
                exact hpp
              · have hcA := (World.cell?_alloc_lt w4 (.cells #[.string (bstr (nodeD da db))] 9) ⟨wr.heap.size, 0, none⟩ (World.block_lt_of_cell? w4 _ hc4)).trans hc4
                rw [if_pos (by rfl)]
                simp only [List.getElem_toArray, List.getElem_cons_succ, List.getElem_cons_zero]
                go_simp
                refine hK.out _ _ (HS.out _ (HB5.out.alloc hs4 _)) (fun hHeld => ?_)
                clear hK K
                try simp only [List.getElem_toArray, List.getElem_cons_succ, List.getElem_cons_zero, Act.put, List.setIfInBounds_toArray, List.set_cons_zero, List.set_cons_succ]
                refine wpAnyH_ready (rs := [0]) (by kernel_rfl) (by simp) ?_
                refine AllReadyH.cons rfl (fun K hK => ?_) AllReadyH.nil
                rw [if_pos (by rfl)]
                simp only [List.getElem_toArray, List.getElem_cons_succ, List.getElem_cons_zero]
                go_simp
                refine hK.out _ _ hHeld (fun hHeld => ?_)
                clear hK K
                try simp only [List.getElem_toArray, List.getElem_cons_succ, List.getElem_cons_zero, Act.put, List.setIfInBounds_toArray, List.set_cons_zero, List.set_cons_succ]
                refine wpAnyH_ready (rs := [9]) (by kernel_rfl) (by simp) ?_
                refine AllReadyH.cons rfl (fun K hK => ?_) AllReadyH.nil
                refine step_app_str w4 (by rfl) (.tmp 35) (.tmp 43) (by rfl) 0 rfl HO4.out hs4 rfl rfl (by omega) ?_
                intro g1 cc1 w9 HO9 HG9 HB9 HL9
                have HPP := Lib.hid (push_post (B := ws.heap.size) HB1.out (Nat.le_refl _) HV.out HROW.out HS1.out HS2.out HB4.out HO9.out HG9.out)
                have hc9 := HPP.out.1.1
                have hf9 := HPP.out.1.2
                refine hK.out _ _ (HS.out _ (HB9.out _ HB5.out)) (fun hHeld => ?_)
                clear hK K
                try simp only [List.getElem_toArray, List.getElem_cons_succ, List.getElem_cons_zero, Act.put, List.setIfInBounds_toArray, List.set_cons_zero, List.set_cons_succ]
                refine wpAnyH_ready (rs := [10]) (by kernel_rfl) (by simp) ?_
                refine AllReadyH.cons rfl (fun K hK => ?_) AllReadyH.nil
                rw [if_pos (by rfl)]
                simp only [List.getElem_toArray, List.getElem_cons_succ, List.getElem_cons_zero]
                go_simp
                refine hK.out _ _ (HS.out _ ((HB9.out _ HB5.out).setCell (p := ⟨wr.heap.size, 0, none⟩) (Nat.le_refl _) _)) (fun hHeld => ?_)
                clear hK K
                try simp only [List.getElem_toArray, List.getElem_cons_succ, List.getElem_cons_zero, Act.put, List.setIfInBounds_toArray, List.set_cons_zero, List.set_cons_succ]
                refine wpAnyH_done (by kernel_rfl) ?_ _
                show _ ∧ _ ∧ _
                refine ⟨HPP.out.2.1, HPP.out.2.2.1, ?_⟩
                have hpp := HPP.out.2.2.2
                rw [← HUP.out] at hpp
                dsimp only
                rw [List.length_append, List.map_append, strs_app]
                exact hpp
          · rw [show chunkV ad r.length x.1 = .slice (some (ad.add (2 * x.1))) 1 1 from if_neg hp]
            have hk1 := str_cell HRW.out (k := 2 * x.1) (by omega)
            dsimp only
            have HUP : Hid ((up r).getD x.1 [] = r[2 * x.1]) := Lib.hid (by rw [getD_lt _ _ _ (by rw [up_len]; omega), up_one r x.1 (by omega)])
            obtain ⟨da, hda0⟩ : ∃ d, d = r[2 * x.1] := ⟨_, rfl⟩
            rw [← hda0] at hk1 HUP
            clear hda0
            have hlt0 := HV.out.lt
            have hps : ps.length ≤ 1000 := by omega
            have HS : Hid (∀ w', Below wr.heap.size wr w' → w'.cell? (ad.add (2 * x.1)) = some (.string (bstr da))) := Lib.hid (fun w' h' => by
              have hbl : (ad.add (2 * x.1)).block < wr.heap.size := World.block_lt_of_cell? wr _ (str_cell HRR.out (k := 2 * x.1) (by omega))
              exact (h'.cell hbl).trans ((HB1.out.cell hbl).symm.trans hk1))
            gi_wp2
            refine region_round (S := fun w' => w'.cell? (ad.add (2 * x.1)) = some (.string (bstr da))) hm (notDefer_all (by kernel_rfl)) (fun h => by obtain ⟨_, _, h⟩ := h; exact h) hk1 (fun hHeld => ?_)
            obtain ⟨w4, hw4⟩ : ∃ w4, w4 = W.drew := ⟨_, rfl⟩
            have HB4 : Hid (Below W.heap.size W w4) := Lib.hid (by rw [hw4]; exact (Below.refl W.heap.size W).drew)
            have hc4 : w4.cell? ⟨wr.heap.size, 0, none⟩ = some v := by rw [hw4]; exact hc0
            have HB5 := Lib.hid (HB1.out.trans (HB4.out.mono (by omega)))
            have hs4 : wr.heap.size ≤ w4.heap.size := HB5.out.size
            have HO4 := Lib.hid (HROW.out.kept (below_grown HB4.out) (by cases hvv : v.ownBlock <;> simp))
            rw [← hw4] at hHeld ⊢
            clear hw4
            refine wpAnyH_take (i := 1) (v := ?_) rfl (by kernel_rfl) (by kernel_rfl) (by kernel_rfl) (fun _ _ _ h => h) (Or.inl ⟨by rfl, ?_⟩) (by assumption) ?_
            rotate_left
            · (intro w hSw; (try dsimp only at hSw); go_simp; try with_reducible rfl)
            try simp only [List.getElem_toArray, List.getElem_cons_succ, List.getElem_cons_zero, Act.put, List.setIfInBounds_toArray, List.set_cons_zero, List.set_cons_succ]
            refine wpAnyH_take (i := 2) (v := ?_) rfl (by kernel_rfl) (by kernel_rfl) (by kernel_rfl) (fun _ _ _ h => h) (Or.inl ⟨by rfl, ?_⟩) (by assumption) ?_
            rotate_left
            · (intro w hSw; (try dsimp only at hSw); go_simp; try with_reducible rfl)
            try simp only [List.getElem_toArray, List.getElem_cons_succ, List.getElem_cons_zero, Act.put, List.setIfInBounds_toArray, List.set_cons_zero, List.set_cons_succ]
            refine wpAnyH_take (i := 3) (v := ?_) rfl (by kernel_rfl) (by kernel_rfl) (by kernel_rfl) (fun _ _ _ h => h) (Or.inl ⟨by rfl, ?_⟩) (by assumption) ?_
            rotate_left
            · (intro w hSw; (try dsimp only at hSw); go_simp; try with_reducible rfl)
            try simp only [List.getElem_toArray, List.getElem_cons_succ, List.getElem_cons_zero, Act.put, List.setIfInBounds_toArray, List.set_cons_zero, List.set_cons_succ]
            refine wpAnyH_ready (rs := [0, 4]) (by kernel_rfl) (by simp) ?_
            refine AllReadyH.cons rfl (fun K hK => ?_) (AllReadyH.cons rfl (fun K hK => ?_) AllReadyH.nil)
            · rw [if_pos (by rfl)]
              simp only [List.getElem_toArray, List.getElem_cons_succ, List.getElem_cons_zero]
              go_simp
              refine hK.out _ _ hHeld (fun hHeld => ?_)
              clear hK K
              try simp only [List.getElem_toArray, List.getElem_cons_succ, List.getElem_cons_zero, Act.put, List.setIfInBounds_toArray, List.set_cons_zero, List.set_cons_succ]
              refine wpAnyH_ready (rs := [4]) (by kernel_rfl) (by simp) ?_
              refine AllReadyH.cons rfl (fun K hK => ?_) AllReadyH.nil
              have hcA := (World.cell?_alloc_lt w4 (.cells #[.string (bstr da)] 9) ⟨wr.heap.size, 0, none⟩ (World.block_lt_of_cell? w4 _ hc4)).trans hc4
              rw [if_pos (by rfl)]
              simp only [List.getElem_toArray, List.getElem_cons_succ, List.getElem_cons_zero]
              go_simp
              refine hK.out _ _ (HS.out _ (HB5.out.alloc hs4 _)) (fun hHeld => ?_)
              clear hK K
              try simp only [List.getElem_toArray, List.getElem_cons_succ, List.getElem_cons_zero, Act.put, List.setIfInBounds_toArray, List.set_cons_zero, List.set_cons_succ]
              refine wpAnyH_ready (rs := [5]) (by kernel_rfl) (by simp) ?_
              refine AllReadyH.cons rfl (fun K hK => ?_) AllReadyH.nil
              refine step_app_str w4 (by rfl) (.tmp 45) (.tmp 49) (by rfl) 0 rfl HO4.out hs4 rfl rfl (by omega) ?_
              intro g1 cc1 w9 HO9 HG9 HB9 HL9
              have HPP := Lib.hid (push_post (B := ws.heap.size) HB1.out (Nat.le_refl _) HV.out HROW.out HS1.out HS2.out HB4.out HO9.out HG9.out)
              have hc9 := HPP.out.1.1
              have hf9 := HPP.out.1.2
              refine hK.out _ _ (HS.out _ (HB9.out _ HB5.out)) (fun hHeld => ?_)
              clear hK K
              try simp only [List.getElem_toArray, List.getElem_cons_succ, List.getElem_cons_zero, Act.put, List.setIfInBounds_toArray, List.set_cons_zero, List.set_cons_succ]
              refine wpAnyH_ready (rs := [6]) (by kernel_rfl) (by simp) ?_
              refine AllReadyH.cons rfl (fun K hK => ?_) AllReadyH.nil
              rw [if_pos (by rfl)]
              simp only [List.getElem_toArray, List.getElem_cons_succ, List.getElem_cons_zero]
              go_simp
              refine hK.out _ _ (HS.out _ ((HB9.out _ HB5.out).setCell (p := ⟨wr.heap.size, 0, none⟩) (Nat.le_refl _) _)) (fun hHeld => ?_)
              clear hK K
              try simp only [List.getElem_toArray, List.getElem_cons_succ, List.getElem_cons_zero, Act.put, List.setIfInBounds_toArray, List.set_cons_zero, List.set_cons_succ]
              refine wpAnyH_done (by kernel_rfl) ?_ _
              show _ ∧ _ ∧ _
              refine ⟨HPP.out.2.1, HPP.out.2.2.1, ?_⟩
              have hpp := HPP.out.2.2.2
              rw [← HUP.out] at hpp
              dsimp only
              rw [List.length_append, List.map_append, strs_app]
              exact hpp
            · have hcA := (World.cell?_alloc_lt w4 (.cells #[.string (bstr da)] 9) ⟨wr.heap.size, 0, none⟩ (World.block_lt_of_cell? w4 _ hc4)).trans hc4
              rw [if_pos (by rfl)]
              simp only [List.getElem_toArray, List.getElem_cons_succ, List.getElem_cons_zero]
              go_simp
              refine hK.out _ _ (HS.out _ (HB5.out.alloc hs4 _)) (fun hHeld => ?_)
              clear hK K
              try simp only [List.getElem_toArray, List.getElem_cons_succ, List.getElem_cons_zero, Act.put, List.setIfInBounds_toArray, List.set_cons_zero, List.set_cons_succ]
              refine wpAnyH_ready (rs := [0]) (by kernel_rfl) (by simp) ?_
              refine AllReadyH.cons rfl (fun K hK => ?_) AllReadyH.nil
              rw [if_pos (by rfl)]
              simp only [List.getElem_toArray, List.getElem_cons_succ, List.getElem_cons_zero]
              go_simp
              refine hK.out _ _ hHeld (fun hHeld => ?_)
              clear hK K
              try simp only [List.getElem_toArray, List.getElem_cons_succ, List.getElem_cons_zero, Act.put, List.setIfInBounds_toArray, List.set_cons_zero, List.set_cons_succ]
              refine wpAnyH_ready (rs := [5]) (by kernel_rfl) (by simp) ?_
              refine AllReadyH.cons rfl (fun K hK => ?_) AllReadyH.nil
              refine step_app_str w4 (by rfl) (.tmp 45) (.tmp 49) (by rfl) 0 rfl HO4.out hs4 rfl rfl (by omega) ?_
              intro g1 cc1 w9 HO9 HG9 HB9 HL9
              have HPP := Lib.hid (push_post (B := ws.heap.size) HB1.out (Nat.le_refl _) HV.out HROW.out HS1.out HS2.out HB4.out HO9.out HG9.out)
              have hc9 := HPP.out.1.1
              have hf9 := HPP.out.1.2
              refine hK.out _ _ (HS.out _ (HB9.out _ HB5.out)) (fun hHeld => ?_)
              clear hK K
              try simp only [List.getElem_toArray, List.getElem_cons_succ, List.getElem_cons_zero, Act.put, List.setIfInBounds_toArray, List.set_cons_zero, List.set_cons_succ]
              refine wpAnyH_ready (rs := [6]) (by kernel_rfl) (by simp) ?_
              refine AllReadyH.cons rfl (fun K hK => ?_) AllReadyH.nil
              rw [if_pos (by rfl)]
              simp only [List.getElem_toArray, List.getElem_cons_succ, List.getElem_cons_zero]
              go_simp
              refine hK.out _ _ (HS.out _ ((HB9.out _ HB5.out).setCell (p := ⟨wr.heap.size, 0, none⟩) (Nat.le_refl _) _)) (fun hHeld => ?_)
              clear hK K
              try simp only [List.getElem_toArray, List.getElem_cons_succ, List.getElem_cons_zero, Act.put, List.setIfInBounds_toArray, List.set_cons_zero, List.set_cons_succ]
              refine wpAnyH_done (by kernel_rfl) ?_ _
              show _ ∧ _ ∧ _
              refine ⟨HPP.out.2.1, HPP.out.2.2.1, ?_⟩
              have hpp := HPP.out.2.2.2
              rw [← HUP.out] at hpp
              dsimp only
              rw [List.length_append, List.map_append, strs_app]
              exact hpp
        case done =>
          rintro D1 ys W hD hS ⟨⟨⟨v, hv, hrow, _⟩, hB⟩, _, _⟩ hK
          have hys : ys.length = (up r).length := by have := congrArg List.length hS; rw [List.length_map, List.length_range] at this; rw [this, up_len]
          have hyu : ys.map (fun j => (up r).getD j.1 []) = up r := by
            have e1 : ys.map (fun j => (up r).getD j.1 []) = (ys.map (·.1)).map (fun j => (up r).getD j []) := by rw [List.map_map]; rfl
            rw [e1, hS, ← up_len]
            exact List.ext_getElem (by simp) (fun i h1 h2 => by rw [List.getElem_map, List.getElem_range, getD_lt _ _ _ h2])
          rw [hyu, hys] at hrow
          obtain ⟨A7, c7, rfl, hc7, hcm7, hb7⟩ := own_form hrow
          have hul := up_len r
          have hux := up_all r (fun x => x.length = 16) HX.out (fun a b => nodeD_len a b)
          have hc0 := hv.cell
          have HCW := HC.out.kept (below_grown hB)
          obtain ⟨xs, hown, hpush⟩ := HCW.open_ (by decide)
          obtain ⟨_, _, _, _, _, hob⟩ := HC.out.form
          have hu : rowRp.ok W (fun b => CellB W b ∧ (Value.slice Ao (pre ++ [r]).length co).ownBlock ≠ some b) [.slice A7 (up r).length c7] (up r) :=
            row_read hrow (fun x hx => by rw [hux x hx]; unfold maxLen; omega) (fun g hg => ⟨own_cellB hrow hg, fun e => by have h1 := (hb7 g hg).1; have h2 := (hob g e).2; omega⟩)
          have HU := Lib.hid hu
          have HROW := Lib.hid hrow
          have HPU := Lib.hid hpush
          have HOWN := Lib.hid hown
          have HBW2 := Lib.hid (HB.out.trans (hB.mono HB.out.size))
          have HDW : Hid (∀ d ∈ D, w.heap.size ≤ d ∧ d < wr.heap.size ∧ W.heap[d]? = some (.deferred (some []))) := Lib.hid (fun d hd => by
            have h := (HDD.out d hd).2
            have hl := (Array.getElem?_eq_some_iff.1 h).1
            exact ⟨(HDD.out d hd).1, hl, (hB.block d hl).trans h⟩)
          have HK := Lib.hid hK
          have HUX := Lib.hid hux
          have hsz9 : w.heap.size ≤ W.heap.size := HBW2.out.size
          have hwz : w.heap.size ≤ wr.heap.size := HB.out.size
          have hpl : (pre ++ [r]).length = pre.length + 1 := by simp
          rw [hpl] at HOWN HPU HU
          have HUL := Lib.hid hul
          have HNE : Hid (∀ g, (Value.slice A7 (up r).length c7).ownBlock = some g → (Value.slice Ao (pre.length + 1) co).ownBlock ≠ some g) := Lib.hid (fun g hg e => by have h1 := (hb7 g hg).1; have h2 := (hob g (by cases Ao with | none => cases e | some a => exact e)).2; omega)
          clear hul hv hrow hB hu hpush hown hux hb7 hob HCW hK hS hys hyu HC HR HRR HDD HB
          go_wp2_with (at_builtin; refine app_new rfl (.tmp 52) (.tmp 54) 71 rfl 49 (.slice none 0 0) 1 24 Tryd.underlying71 rows_info rfl (by decide) [.slice A7 (up r).length c7] HOWN.out hsz9 rfl rfl rfl (by decide) (by simp [Value.oneCell']) (by unfold maxLen; omega) (by omega) ?_; intro g1 cc1 w9 HO9 HG9 HB9 HL9)
          have hul := HUL.out
          refine ⟨⟨_, _, _, _, _, _, _, _, _, _, _, _, _, _, _, _, _, _, _, _, _, _, _, _, _, _, _, _, _, _, _, _, _, _, _, _, _, _, _, _, _, _, _, _, _, _, _, _, _, _, _, _, _, _, _, _, _, pre ++ [r], up r, D1 :: D, rfl, ?_, ?_, Lib.hid ?_, Lib.hid ?_, Lib.hid ?_, Lib.hid ?_, Lib.hid ?_, HUX, Lib.hid (HB9.out _ HBW2.out)⟩, ?_⟩
          · intro e; rw [e] at hul; simp at hul; omega
          · rw [hpl]; omega
          · rw [← HT.out, rowsFrom_more hr1, List.append_assoc]; rfl
          · refine own_base (HROW.out.kept HG9.out ?_) hwz
            cases hvb : (Value.slice A7 (up r).length c7).ownBlock with
            | none => exact .inl rfl
            | some g => exact .inr (fun e => HNE.out g hvb e.symm)
          · exact HPU.out W w9 g1 cc1 (up r) [.slice A7 (up r).length c7] ((Drawn.refl W).grown none) HU.out HG9.out HO9.out HL9.out
          · exact List.nodup_cons.2 ⟨fun hm => by have := (HDW.out D1 hm).2.1; omega, HD.out⟩
          · intro d hd
            rcases List.mem_cons.1 hd with rfl | hd
            · exact ⟨by omega, (HG9.out.block d (Array.getElem?_eq_some_iff.1 HK.out).1 (ne_mark HK.out HOWN.out)).trans HK.out⟩
            · have h := (HDW.out d hd).2.2
              exact ⟨(HDW.out d hd).1, (HG9.out.block d (Array.getElem?_eq_some_iff.1 h).1 (ne_mark h HOWN.out)).trans h⟩
          · show (up r).length < r.length
            omega
        case stop =>
          rintro D c ps W _ _ h _
          exact h.elim
end Go.Proofs.YtnnoolemmnailaaDoor
