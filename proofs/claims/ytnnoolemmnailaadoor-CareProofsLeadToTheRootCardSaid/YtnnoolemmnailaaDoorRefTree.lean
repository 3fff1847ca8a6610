/-
  'tree' of the reference: the rows of a tree.
-/
import Derived.Test.YtnnoolemmnailaaDoorProg
import Derived.Test.YtnnoolemmnailaaDoorTree
import Derived.Deep.RegionHeld3
namespace Go.Proofs.YtnnoolemmnailaaDoor
open Go.RowKit
set_option linter.unusedVariables false
set_option linter.unusedSimpArgs false

theorem up_take (r : List Str8) (j : Nat) (h : j < (up r).length) : (up r).take (j + 1) = (up r).take j ++ [(up r)[j]] := by rw [List.take_succ_eq_append_getElem h]
set_option maxRecDepth 100000 in
set_option maxHeartbeats 4000000 in
theorem refTree_any (v0 : Value) (l : List Leaf) (w : World) (h0 : (Rp.sl leafRp).ok w (· < w.heap.size) [v0] l) (hl3 : l.length ≤ 1000) (hks : ∀ x ∈ l, x.key.length ≤ 100000 ∧ x.digest.length ≤ 100000) :
    Calls Tryd.prog 75 #[v0] w (TreePost l w) := by
  obtain ⟨A, c, rfl, hl, hc, _⟩ := Rp.sl_open h0
  unfold maxLen at hc
  have H0 := Lib.hid h0
  have HKS := Lib.hid hks
  clear h0 hks
  by_cases hnil : l = []
  · subst hnil
    have HP := Lib.hid (show TreePost [] w (.returned (.slice none 0 0)) w from ⟨_, rfl, Rp.sl_nil _ _ _, Below.refl _ _⟩)
    go_enter Tryd.func75, Tryd.ntmps75
    go_wp2_with fail
    go_ret
    exact HP.out
  have hl0 : 0 < l.length := List.length_pos_iff.2 hnil
  have hl1 : ((l.length : Int) == 0) = false := by rw [beq_eq_false_iff_ne]; omega
  go_enter Tryd.func75, Tryd.ntmps75
  go_wp2_with fail
  go_loopw [3, 14] (fun vr i wr => ∃ k : Nat, k ≤ l.length ∧ i = .int .i64 k ∧ Hid (wr.ownsRow w.heap.size 9 1 vr k (strs ((l.take k).map leafD))) ∧ Hid (Below w.heap.size w wr)) (fun _ i _ => l.length - (intOf i).toNat)
  case atStart => exact ⟨0, by omega, rfl, World.ownsRow_nil _ _ _ _, Below.refl _ _⟩
  case round =>
    obtain ⟨k, hk, rfl, HO, HB⟩ := hrel
    by_cases hlt : k < l.length
    · obtain ⟨ad, us, rfl, _, hadb, hu, hcell⟩ := Rp.sl_at (Rp.below _ H0.out HB.out) hlt
      obtain ⟨rfl, hz1, hz2⟩ := leaf_open hu
      have c0 := hcell 0 _ rfl
      rw [Nat.add_zero] at c0
      change World.cell? _ (ad.add (k * 2)) = some (.string (bstr l[k].key)) at c0
      have c1 := hcell 1 _ rfl
      rw [add_fld _ _ _ (by omega)] at c1
      change World.cell? _ ⟨(ad.add (k * 2)).block, (ad.add (k * 2)).off + 1, none⟩ = some (.string (bstr l[k].digest)) at c1
      have hx := HKS.out l[k] (List.getElem_mem hlt)
      have HST : Hid ((l.take (k + 1)).map leafD = (l.take k).map leafD ++ [leafD l[k]]) := Lib.hid (by rw [List.take_succ_eq_append_getElem hlt, List.map_append]; rfl)
      clear hcell hu hadb hz1 hz2
      obtain ⟨A5, c5, rfl, _⟩ := own_form HO.out
      generalize l[k] = x at *
      generalize (l.take k).map leafD = r0 at *
      have HBA := Lib.hid (HB.out.alloc HB.out.size (.cells #[.string (bstr x.key), .string (bstr x.digest)] 33))
      have HOA := Lib.hid (HO.out.alloc (.cells #[.string (bstr x.key), .string (bstr x.digest)] 33))
      have hkb := Blk.new wr 33 [.string (bstr x.key), .string (bstr x.digest)]
      have k0 : _ = some (Value.string (bstr x.key)) := hkb.cell 0
      have k1 : _ = some (Value.string (bstr x.digest)) := hkb.cell 1
      clear hkb HO
      go_wp2_with fail
      refine (refLeaf_any x _ hx.1 hx.2).mono ?_
      rintro e w2 ⟨rfl, hb2⟩
      have HB2 := Lib.hid (HBA.out.trans (hb2.mono HBA.out.size))
      have HO2 := Lib.hid (HOA.out.kept (below_grown hb2) (by cases hvv : (Value.slice A5 k c5).ownBlock <;> simp))
      have hs2 := HB2.out.size
      clear hb2 HOA HBA k0 k1
      go_wp2_with (at_builtin; refine app_str rfl (.tmp 18) (.tmp 21) rfl HO2.out hs2 rfl rfl (by omega) ?_; intro g1 cc1 w9 HO9 HG9 HB9 HL9)
      go_roundw
      case rel =>
        exact ⟨k + 1, by omega, by go_num, by rw [HST.out, strs_app]; exact HO9.out, HB9.out _ HB2.out⟩
      case measure => simp [intOf]; omega
    · obtain rfl : k = l.length := by omega
      rw [List.take_length] at *
      obtain ⟨A5, c5, rfl, _⟩ := own_form HO.out
      have hw1 := (Below.refl wr.heap.size wr).alloc (Nat.le_refl _) (.cells #[.slice A5 l.length c5] 49)
      have HB1 := Lib.hid (HB.out.alloc HB.out.size (.cells #[.slice A5 l.length c5] 49))
      have HR0 : Hid ((wr.alloc (.cells #[.slice A5 l.length c5] 49)).ownsRow w.heap.size 9 1 (.slice A5 l.length c5) (l.map leafD).length (strs (l.map leafD))) := Lib.hid (by rw [List.length_map]; exact HO.out.alloc _)
      have HRC : Hid (RowsC rowRp 49 w.heap.size (wr.alloc (.cells #[.slice A5 l.length c5] 49)) (.slice (some ⟨wr.heap.size, 0, none⟩) 1 1) ([] ++ [l.map leafD])) := Lib.hid (rowsC_one HB.out.size HR0.out (fun x hx => by obtain ⟨y, _, rfl⟩ := List.mem_map.1 hx; rw [leafD_len]; unfold maxLen; omega) (by rcases own_form HO.out with ⟨_, _, _, _, _, h⟩; exact fun g hg => (h g hg).2))
      go_wp2_with fail
      go_loopw [3, 6] (fun vr vo wr => ∃ (pre : List (List Str8)) (r : List Str8), r ≠ [] ∧ pre.length + r.length ≤ 1000 ∧ Hid (pre ++ rowsFrom r = treeOf l) ∧ Hid (wr.ownsRow w.heap.size 9 1 vr r.length (strs r)) ∧ Hid (RowsC rowRp 49 w.heap.size wr vo (pre ++ [r])) ∧ Hid (∀ x ∈ r, x.length = 16) ∧ Hid (Below w.heap.size w wr)) (fun vr _ _ => sliceLen vr)
      case atStart => exact ⟨[], l.map leafD, by simpa using hnil, by simpa using hl3, Lib.hid (by rw [treeOf_some hnil]; rfl), by simpa using HR0, HRC, Lib.hid (fun x hx => by obtain ⟨y, _, rfl⟩ := List.mem_map.1 hx; exact leafD_len y), HB1⟩
      case round =>
        clear HO HR0 HRC HB1 hk hlt
        obtain ⟨pre, r, hr0, hsz, HT, HR, HC, HX, HB⟩ := hrel
        obtain ⟨Ar, cr, rfl, hcr, hcm, _⟩ := own_form HR.out
        obtain ⟨Ao, co, rfl, hco, hcom, _⟩ := HC.out.form
        by_cases hr1 : r.length ≤ 1
        · have hr2 : ¬ (1 : Int) < (r.length : Int) := by omega
          have HP := Lib.hid (show TreePost l w (.returned (.slice Ao (pre ++ [r]).length co)) wr from ⟨_, rfl, by rw [← HT.out, rowsFrom_one hr1]; exact HC.out.read (by decide) (Same.refl _ _) (Nat.le_refl _), HB.out⟩)
          rw [show (pre ++ [r]).length = pre.length + 1 by simp] at HP
          go_wp2_with fail
          go_ret
          exact HP.out
        · have hr2 : (1 : Int) < (r.length : Int) := by omega
          have hrr : (Rp.sl Rp.str).ok wr (· < wr.heap.size) [.slice Ar r.length cr] (r.map bstr) := row_read HR.out (fun x hx => by rw [HX.out x hx]; unfold maxLen; omega) (fun g hg => (HR.out.lt g hg).2)
          obtain ⟨ad, rfl⟩ : ∃ ad, Ar = some ad := by
            rcases Rp.sl_some (R := Rp.str) hrr (by rw [List.length_map]; omega) with ⟨ad, h⟩
            rcases h with ⟨h, _⟩ | h
            · exact ⟨ad, h⟩
            · cases h
          have HRR := Lib.hid hrr
          clear hrr
          have hpl : (pre ++ [r]).length = pre.length + 1 := by simp
          rw [hpl] at HC hco ⊢
          obtain ⟨w0, hw0⟩ : ∃ w0, w0 = wr := ⟨_, rfl⟩
          have HUL := Lib.hid (up_len r)
          rw [← hw0] at HRR HR HC HB
          go_wp2_with fail
          go_loopw [7, 8] (fun vn vi wr => ∃ i j : Nat, Hid (i = 2 * j) ∧ i ≤ r.length + 1 ∧ vi = .int .i64 i ∧ Hid (wr.ownsRow w0.heap.size 9 1 vn j (strs ((up r).take j))) ∧ Hid (Below w0.heap.size w0 wr)) (fun _ vi _ => r.length + 1 - (intOf vi).toNat)
          case atStart => exact ⟨0, 0, rfl, by omega, rfl, World.ownsRow_nil _ _ _ _, by rw [hw0]; exact Below.refl _ _⟩
          case round =>
            clear hw0
            obtain ⟨i, j, HI, hj, rfl, HN, HB2⟩ := hrel
            have hs2 := HB2.out.size
            obtain ⟨An, cn, rfl, _⟩ := own_form HN.out
            by_cases hlt : i < r.length
            · have hju : j < (up r).length := by have := HUL.out; have := HI.out; omega
              have HUT := Lib.hid (up_take r j hju)
              have p2 : (0 : Int) ≤ (i : Int) ∧ (i : Int) < (r.length : Int) := by omega
              have e1 : IntKind.i64.wrap ((i : Int) + 1) = (i : Int) + 1 := IntWalk.i64_in _ (by omega)
              have e2 : IntKind.i64.wrap ((i : Int) + 2) = (i : Int) + 2 := IntWalk.i64_in _ (by omega)
              have hk1 := str_cell (Rp.below _ HRR.out HB2.out) hlt
              have hj9 : j ≤ 100000 := by have := HI.out; omega
              by_cases hp : i + 1 < r.length
              · have HUP : Hid ((up r)[j] = nodeD r[i] r[i + 1]) := Lib.hid (by obtain rfl : i = 2 * j := HI.out; exact up_two r j hp)
                have p3 : (0 : Int) ≤ (i : Int) + 1 ∧ (i : Int) + 1 < (r.length : Int) := by omega
                have hk2 := str_cell (Rp.below _ HRR.out HB2.out) hp
                have hx1 := HX.out r[i] (List.getElem_mem _)
                have hx2 := HX.out r[i + 1] (List.getElem_mem _)
                generalize r[i] = da at *
                generalize r[i + 1] = db at *
                have hda : da.length ≤ 100000 := by omega
                have hdb : db.length ≤ 100000 := by omega
                have HS : Hid (∀ w', Below w0.heap.size w0 w' → w'.cell? (ad.add i) = some (.string (bstr da)) ∧ w'.cell? ⟨ad.block, ad.off + (i + 1), none⟩ = some (.string (bstr db))) := Lib.hid (fun w' h' => by
                  have hbl : (ad.add i).block < w0.heap.size := World.block_lt_of_cell? w0 _ (str_cell HRR.out (k := i) (by omega))
                  have hbm : (ad.add (i + 1)).block < w0.heap.size := World.block_lt_of_cell? w0 _ (str_cell HRR.out (k := i + 1) (by omega))
                  have ea : ad.add (i + 1) = ⟨ad.block, ad.off + (i + 1), none⟩ := by simp [Addr.add]
                  rw [← ea]
                  exact ⟨(h'.cell hbl).trans ((HB2.out.cell hbl).symm.trans hk1), (h'.cell hbm).trans ((HB2.out.cell hbm).symm.trans hk2)⟩)
                clear hk1 hk2
                have HBD : Hid (∀ w4, Below wr.drew.heap.size wr.drew w4 → Hid (Below wr.heap.size wr w4)) := Lib.hid (fun w4 h => Lib.hid (((Below.refl wr.heap.size wr).drew).trans h))
                go_wp2_with fail
                go_region_held3 (fun w' => w'.cell? (ad.add i) = some (.string (bstr da)) ∧ w'.cell? ⟨ad.block, ad.off + (i + 1), none⟩ = some (.string (bstr db)))
                  (first | exact HS.out _ HB2.out.drew | exact HS.out _ HB5.out | exact HS.out _ (HB5.out.alloc hs5 _) | exact HS.out _ (HB9.out _ HB5.out))
                  (first
                    | (refine step_app_str w4 (by rfl) (.tmp 40) (.tmp 51) (by rfl) 0 (by rfl) HN5.out hs5 (by rfl) (by rfl) (by omega) ?_; intro g1 cc1 w9 HO9 HG9 HB9 HL9)
                    | (go_at_call 79; with_reducible refine (refNode_any da db _ hda hdb).mono ?_; rintro e w4 ⟨rfl, hb4⟩; have HB4 := HBD.out w4 hb4; have HB5 := Lib.hid (HB2.out.trans (HB4.out.mono hs2)); have hs5 := HB5.out.size; have HN5 := Lib.hid (own_below HN.out HB4.out); clear hb4))
                all_goals
                  go_wp2_with fail
                  go_roundw
                  case rel => exact ⟨i + 2, j + 1, Lib.hid (by have := HI.out; omega), by omega, by go_num, Lib.hid (by rw [HUT.out, strs_app, HUP.out]; exact HO9.out), Lib.hid (HB9.out _ HB5.out)⟩
                  case measure => simp [intOf]; omega
              · have HUP : Hid ((up r)[j] = r[i]) := Lib.hid (by obtain rfl : i = 2 * j := HI.out; exact up_one r j (by omega))
                have p3 : ¬ (i : Int) + 1 < (r.length : Int) := by omega
                generalize r[i] = da at *
                go_wp2_with (at_builtin; refine app_str rfl (.tmp 53) (.tmp 58) rfl HN.out hs2 rfl rfl (by omega) ?_; intro g1 cc1 w9 HO9 HG9 HB9 HL9)
                go_roundw
                case rel => exact ⟨i + 2, j + 1, Lib.hid (by have := HI.out; omega), by omega, by go_num, Lib.hid (by rw [HUT.out, strs_app, HUP.out]; exact HO9.out), Lib.hid (HB9.out _ HB2.out)⟩
                case measure => simp [intOf]; omega
            · have hju : j = (up r).length := by have := HUL.out; have := HI.out; omega
              have hlt' : ¬ (i : Int) < (r.length : Int) := by omega
              have HUX := Lib.hid (up_all r (fun x => x.length = 16) HX.out (fun a b => nodeD_len a b))
              subst hju
              rw [List.take_length] at HN
              have HCW := HC.out.kept (below_grown HB2.out)
              obtain ⟨xs, hown, hpush⟩ := HCW.open_ (by decide)
              obtain ⟨_, _, _, _, _, hob⟩ := HC.out.form
              have HNE : Hid (∀ g, (Value.slice An (up r).length cn).ownBlock = some g → (Value.slice Ao (pre.length + 1) co).ownBlock ≠ some g) := Lib.hid (fun g hg e => by have h1 := (HN.out.lt g hg).1; have h2 := (hob g (by cases Ao with | none => cases e | some a => exact e)).2; omega)
              have HU : Hid (rowRp.ok wr (fun b => CellB wr b ∧ (Value.slice Ao (pre.length + 1) co).ownBlock ≠ some b) [.slice An (up r).length cn] (up r)) := Lib.hid (row_read HN.out (fun x hx => by rw [HUX.out x hx]; unfold maxLen; omega) (fun g hg => ⟨own_cellB HN.out hg, HNE.out g hg⟩))
              rw [hpl] at hown hpush
              have HPU := Lib.hid hpush
              have HOWN := Lib.hid hown
              have HBW2 := Lib.hid (HB.out.trans (HB2.out.mono HB.out.size))
              have hsz9 : w.heap.size ≤ wr.heap.size := HBW2.out.size
              have hwz : w.heap.size ≤ w0.heap.size := HB.out.size
              clear HCW hown hpush hob HC HR HB HRR
              go_wp2_with (at_builtin; refine app_new rfl (.tmp 60) (.tmp 62) 71 rfl 49 (.slice none 0 0) 1 24 Tryd.underlying71 rows_info rfl (by decide) [.slice An (up r).length cn] HOWN.out hsz9 rfl rfl rfl (by decide) (by simp [Value.oneCell']) (by unfold maxLen; omega) (by omega) ?_; intro g1 cc1 w9 HO9 HG9 HB9 HL9)
              have hul := HUL.out
              go_roundw
              case rel =>
                refine ⟨pre ++ [r], up r, ?_, ?_, Lib.hid ?_, Lib.hid ?_, Lib.hid ?_, HUX, Lib.hid (HB9.out _ HBW2.out)⟩
                · intro e; rw [e] at hul; simp at hul; omega
                · rw [hpl]; omega
                · rw [← HT.out, rowsFrom_more hr1, List.append_assoc]; rfl
                · refine own_base (HN.out.kept HG9.out ?_) hwz
                  cases hvb : (Value.slice An (up r).length cn).ownBlock with
                  | none => exact .inl rfl
                  | some g => exact .inr (fun e => HNE.out g hvb e.symm)
                · exact HPU.out wr w9 g1 cc1 (up r) [.slice An (up r).length cn] ((Drawn.refl wr).grown none) HU.out HG9.out HO9.out HL9.out
              case measure =>
                show (up r).length < r.length
                omega
end Go.Proofs.YtnnoolemmnailaaDoor
