/-
  'After' of the reference.
-/
import Derived.Test.YtdklocgaimejgaaDoorPut
import Derived.Test.YtdklocgaimejgaaDoorRepSt
import Derived.Deep.RegionHeld3
namespace Go.Proofs.YtdklocgaimejgaaDoor
open Go.RowKit
set_option linter.unusedVariables false
set_option linter.unusedSimpArgs false

theorem twice_hit {r : List Rpr} {x : Rpr} {k j : Nat} (hk : k < r.length) (hx : r[k] = x) (hj : j < k) (hjl : j < r.length) (h : r[j].item = x.item ∧ r[j].to = x.to) : twiceB r k = true := by
  unfold twiceB
  rw [getD_at _ _ hk, hx, List.any_eq_true]
  refine ⟨r[j], ?_, decide_eq_true h⟩
  rw [List.mem_take_iff_getElem]
  exact ⟨j, by omega, rfl⟩
theorem twice_none {r : List Rpr} {x : Rpr} {k : Nat} (hk : k < r.length) (hx : r[k] = x) (h : ∀ j, j < k → ∀ hj : j < r.length, ¬ (r[j].item = x.item ∧ r[j].to = x.to)) : twiceB r k = false := by
  unfold twiceB
  rw [getD_at _ _ hk, hx, List.any_eq_false]
  intro y hy
  obtain ⟨j, hj, rfl⟩ := List.mem_take_iff_getElem.1 hy
  simpa using h j (by omega) (by omega)
theorem blk_own {w w' : World} {b B n sz : Nat} {t e : TypeId} {cs xs : List Value} {v : Value} (hk : Blk w b t cs) (h : w.ownsRow B e sz v n xs) (hne : t ≠ e) (hg : w.grownBy w' v.ownBlock) : Blk w' b t cs :=
  hk.same (grown_same hg) ⟨hk.lt, fun q => by
    obtain ⟨cur, hc⟩ := own_cells h q.symm
    unfold Blk at hk
    rw [hk] at hc
    injection hc with hc
    injection hc with _ ht
    exact hne ht⟩
set_option maxRecDepth 100000 in
set_option maxHeartbeats 8000000 in
theorem refAfter_any (v0 : Value) (s : List Site) (v1 : Value) (l : List Held) (v2 : Value) (r : List Rpr) (w : World) (h0 : (Rp.sl siteRp).ok w (· < w.heap.size) [v0] s) (h1 : (Rp.sl heldRp).ok w (· < w.heap.size) [v1] l) (h2 : (Rp.sl rprRp).ok w (· < w.heap.size) [v2] r) :
    Calls Tryd.prog 14 #[v0, v1, v2] w (AftPost s l r w) := by
  have H0 := Lib.hid h0
  have H1 := Lib.hid h1
  have H2 := Lib.hid h2
  obtain ⟨A2, c2s, rfl, hl2, hc2, _⟩ := Rp.sl_open h2
  unfold maxLen at hc2
  have HSZ := Lib.hid (held_sizes h1)
  clear h0 h1 h2
  go_enter Tryd.func14, Tryd.ntmps14
  go_wp2_with fail
  refine (refCheckCopies_any _ s v1 l w H0.out H1.out).mono ?_
  rintro e w1 ⟨rfl, hb1⟩
  have HB1 := Lib.hid hb1
  clear hb1
  by_cases hf : copiesFault s l = 0
  case neg =>
    have HP := Lib.hid (AftPost.fail (w := w) (r := r) (show aftFault s l r = copiesFault s l by rw [aftFault, if_pos hf]) hf HB1.out)
    have hb : (copiesFault s l != 0) = true := by simpa using hf
    generalize copiesFault s l = f at *
    go_wp2_with fail
    go_ret2
    exact HP.out
  rw [hf]
  have HF0 := Lib.hid hf
  clear hf
  by_cases h3 : 3000 < r.length
  · have HP := Lib.hid (AftPost.fail (w := w) (show aftFault s l r = 2 by rw [aftFault, if_neg (by rw [HF0.out]; decide), if_pos h3]) (by decide) HB1.out)
    have h3' : (3000 : Int) < (r.length : Int) := by omega
    go_wp2_with fail
    go_ret2
    exact HP.out
  have h3' : ¬ (3000 : Int) < (r.length : Int) := by omega
  have hl3 := (copies_ok HF0.out).2.1
  have HHS := Lib.hid (copies_hs HF0.out)
  go_wp2_with fail
  go_loopw [27] (fun vi wr => ∃ k : Nat, k ≤ r.length ∧ vi = .int .i64 k ∧ Hid (∀ j, j < k → aftF s l r j = 0) ∧ Hid (Below w.heap.size w wr)) (fun vi _ => r.length - (intOf vi).toNat)
  case atStart => exact ⟨0, by omega, rfl, (fun j hj => absurd hj (by omega)), HB1⟩
  case round =>
    clear HB1
    obtain ⟨k, hk, rfl, HZ, HB⟩ := hrel
    by_cases hlt : k < r.length
    · obtain ⟨ad, c', e1, hadb, c0, c1, c2, c3, hz1, hz2, hz3, hz4⟩ := rpr_at (Rp.below _ H2.out HB.out) hlt
      cases e1
      have F1 := Lib.hid (fun h => aftFault_at HF0.out h3 hlt HZ.out (aftF_1 hlt h) (by decide))
      have F2 := Lib.hid (fun h h2 => aftFault_at HF0.out h3 hlt HZ.out (aftF_2 hlt h h2) (by decide))
      have F3 := Lib.hid (fun h h2 h3' => aftFault_at HF0.out h3 hlt HZ.out (aftF_3 hlt h h2 h3') (by decide))
      have F4 := Lib.hid (fun h h2 h3' h4 => aftFault_at HF0.out h3 hlt HZ.out (aftF_4 hlt h h2 h3' h4) (by decide))
      have F5 := Lib.hid (fun h h2 h3' h4 h5 => aftFault_at HF0.out h3 hlt HZ.out (aftF_5 hlt h h2 h3' h4 h5) (by decide))
      have F6 := Lib.hid (fun h h2 h3' h4 h5 h6 => aftFault_at HF0.out h3 hlt HZ.out (aftF_6 hlt h h2 h3' h4 h5 h6) (by decide))
      have F7 := Lib.hid (fun h h2 h3' h4 h5 h6 => firstF_step HZ.out (aftF_7 (s := s) (l := l) hlt h h2 h3' h4 h5 h6))
      clear hadb
      generalize hx : r[k] = x at *
      have HXX := Lib.hid hx
      clear hx
      have hb4 := (Below.refl wr.heap.size wr).alloc (Nat.le_refl _) (.cells #[.string (bstr x.item), .string (bstr x.frm), .string (bstr x.to), .int .i64 x.rnd] 43)
      have HB4 := Lib.hid (HB.out.trans (hb4.mono HB.out.size))
      have HX4 := Lib.hid (Blk.new wr 43 [.string (bstr x.item), .string (bstr x.frm), .string (bstr x.to), .int .i64 x.rnd])
      have x0 : _ = some (Value.string (bstr x.item)) := HX4.out.cell 0
      have x1 : _ = some (Value.string (bstr x.frm)) := HX4.out.cell 1
      have x2 : _ = some (Value.string (bstr x.to)) := HX4.out.cell 2
      have x3 : _ = some (Value.int .i64 x.rnd) := HX4.out.cell 3
      clear hb4 HB
      go_wp2_with fail
      clear c0 c1 c2 c3
      obtain ⟨bx, hbx⟩ : ∃ bx, wr.heap.size = bx := ⟨_, rfl⟩
      rw [hbx] at HX4 x0 x1 x2 x3 ⊢
      generalize wr.alloc (.cells #[.string (bstr x.item), .string (bstr x.frm), .string (bstr x.to), .int .i64 x.rnd] 43) = w4 at *
      clear hbx
      refine (refIsNameB_any x.item _ hz1).mono ?_
      rintro e w5 ⟨rfl, hb⟩
      have HB5 := Lib.hid (HB4.out.trans (hb.mono HB4.out.size))
      have HX5 := Lib.hid (HX4.out.same (same_below hb) HX4.out.lt)
      clear hb HB4 HX4 x0 x1 x2 x3
      have x0 : w5.cell? ⟨bx, 0, none⟩ = some (.string (bstr x.item)) := HX5.out.cell 0
      have x1 : w5.cell? ⟨bx, 1, none⟩ = some (.string (bstr x.frm)) := HX5.out.cell 1
      have x2 : w5.cell? ⟨bx, 2, none⟩ = some (.string (bstr x.to)) := HX5.out.cell 2
      have x3 : w5.cell? ⟨bx, 3, none⟩ = some (.int .i64 x.rnd) := HX5.out.cell 3
      cases hnm : isNm x.item with
      | false =>
        have HP := Lib.hid (AftPost.fail (w := w) (F1.out hnm) (by decide) HB5.out)
        clear F1 F2 F3 F4 F5 F6 F7 hnm
        go_wp2_with fail
        go_ret2
        exact HP.out
      | true =>
      have F2' := F2.out hnm
      have F3' := F3.out hnm
      have F4' := F4.out hnm
      have F5' := F5.out hnm
      have F6' := F6.out hnm
      have F7' := F7.out hnm
      clear F1 F2 F3 F4 F5 F6 F7 hnm
      go_wp2_with fail
      refine (siteOf_any _ s x.frm _ (Rp.ext _ H0.out HB5.out)).mono ?_
      rintro e w7 ⟨rfl, hb⟩
      have HB7 := Lib.hid (HB5.out.trans (hb.mono HB5.out.size))
      have HX7 := Lib.hid (HX5.out.same (same_below hb) HX5.out.lt)
      clear hb HB5 HX5 x0 x1 x2 x3
      have x0 : w7.cell? ⟨bx, 0, none⟩ = some (.string (bstr x.item)) := HX7.out.cell 0
      have x1 : w7.cell? ⟨bx, 1, none⟩ = some (.string (bstr x.frm)) := HX7.out.cell 1
      have x2 : w7.cell? ⟨bx, 2, none⟩ = some (.string (bstr x.to)) := HX7.out.cell 2
      have x3 : w7.cell? ⟨bx, 3, none⟩ = some (.int .i64 x.rnd) := HX7.out.cell 3
      by_cases hsi : siteIdx s x.frm < 0
      · have HP := Lib.hid (AftPost.fail (w := w) (F2' hsi) (by decide) HB7.out)
        clear F2' F3' F4' F5' F6' F7'
        generalize siteIdx s x.frm = si at *
        go_wp2_with fail
        go_ret2
        exact HP.out
      have F3 := Lib.hid (F3' (by omega))
      have F4 := Lib.hid (F4' (by omega))
      have F5 := Lib.hid (F5' (by omega))
      have F6 := Lib.hid (F6' (by omega))
      have F7 := Lib.hid (F7' (by omega))
      clear F2' F3' F4' F5' F6' F7'
      generalize siteIdx s x.frm = si at *
      go_wp2_with fail
      refine (siteOf_any _ s x.to _ (Rp.ext _ H0.out HB7.out)).mono ?_
      rintro e w8 ⟨rfl, hb⟩
      have HB8 := Lib.hid (HB7.out.trans (hb.mono HB7.out.size))
      have HX8 := Lib.hid (HX7.out.same (same_below hb) HX7.out.lt)
      clear hb HB7 HX7 x0 x1 x2 x3
      have x0 : w8.cell? ⟨bx, 0, none⟩ = some (.string (bstr x.item)) := HX8.out.cell 0
      have x1 : w8.cell? ⟨bx, 1, none⟩ = some (.string (bstr x.frm)) := HX8.out.cell 1
      have x2 : w8.cell? ⟨bx, 2, none⟩ = some (.string (bstr x.to)) := HX8.out.cell 2
      have x3 : w8.cell? ⟨bx, 3, none⟩ = some (.int .i64 x.rnd) := HX8.out.cell 3
      by_cases hsj : siteIdx s x.to < 0
      · have HP := Lib.hid (AftPost.fail (w := w) (F3.out hsj) (by decide) HB8.out)
        clear F3 F4 F5 F6 F7
        generalize siteIdx s x.to = sj at *
        go_wp2_with fail
        go_ret2
        exact HP.out
      have F4' := F4.out (by omega)
      have F5' := F5.out (by omega)
      have F6' := F6.out (by omega)
      have F7' := F7.out (by omega)
      clear F3 F4 F5 F6 F7
      generalize siteIdx s x.to = sj at *
      go_wp2_with fail
      refine (rwithinL_any x.rnd 1 3000 _).mono ?_
      rintro e w9 ⟨rfl, rfl⟩
      cases hwi : withinB x.rnd 1 3000 with
      | false =>
        have HP := Lib.hid (AftPost.fail (w := w) (F4' hwi) (by decide) HB8.out)
        clear F4' F5' F6' F7' hwi
        go_wp2_with fail
        go_ret2
        exact HP.out
      | true =>
      have F5 := Lib.hid (F5' hwi)
      have F6 := Lib.hid (F6' hwi)
      have F7 := Lib.hid (F7' hwi)
      clear F4' F5' F6' F7' hwi
      go_wp2_with fail
      refine (held_any v1 l x.item x.frm _ (Rp.ext _ H1.out HB8.out)).mono ?_
      rintro e w9 ⟨rfl, hb⟩
      have HB9 := Lib.hid (HB8.out.trans (hb.mono HB8.out.size))
      have HX9 := Lib.hid (HX8.out.same (same_below hb) HX8.out.lt)
      clear hb HB8 HX8 x0 x1 x2 x3
      have x0 : w9.cell? ⟨bx, 0, none⟩ = some (.string (bstr x.item)) := HX9.out.cell 0
      have x1 : w9.cell? ⟨bx, 1, none⟩ = some (.string (bstr x.frm)) := HX9.out.cell 1
      have x2 : w9.cell? ⟨bx, 2, none⟩ = some (.string (bstr x.to)) := HX9.out.cell 2
      have x3 : w9.cell? ⟨bx, 3, none⟩ = some (.int .i64 x.rnd) := HX9.out.cell 3
      generalize heldL x.item x.frm l = dg at *
      by_cases hdg : dg = []
      · have HP := Lib.hid (AftPost.fail (w := w) (F5.out hdg) (by decide) HB9.out)
        have hem : (bstr dg).toList.isEmpty = true := by rw [hdg, bstr_toList]; rfl
        clear F5 F6 F7 hdg
        go_wp2_with fail
        go_ret2
        exact HP.out
      have hem : (bstr dg).toList.isEmpty = false := by
        rw [bstr_toList]; cases dg with | nil => exact absurd rfl hdg | cons _ _ => rfl
      have F6' := F6.out hdg
      have F7' := F7.out hdg
      clear F5 F6 F7 hdg
      have F6 := Lib.hid F6'
      have F7 := Lib.hid F7'
      clear F6' F7' x0 x1 x2 x3
      have hk0 : (0 : Int) ≤ (k : Int) := by omega
      have hkc : (k : Int) ≤ (c2s : Int) := by omega
      have hkr : (k : Int) ≤ (r.length : Int) := by omega
      go_wp2_with fail
      go_loopw [68] (fun vi wr => ∃ k2 : Nat, k2 ≤ k ∧ vi = .int .i64 k2 ∧ Hid (∀ j, j < k2 → ∀ hj : j < r.length, ¬ (r[j].item = x.item ∧ r[j].to = x.to)) ∧ Hid (Below w.heap.size w wr) ∧ Hid (Blk wr bx 43 [.string (bstr x.item), .string (bstr x.frm), .string (bstr x.to), .int .i64 x.rnd])) (fun vi _ => k - (intOf vi).toNat)
      case atStart => exact ⟨0, by omega, rfl, (fun j hj => absurd hj (by omega)), HB9, HX9⟩
      case round =>
        clear HB9 HX9
        obtain ⟨k2, hk2, rfl, HN, HB, HX⟩ := hrel
        by_cases hlt2 : k2 < k
        · obtain ⟨ad2, c', e1, hadb, c0, c1, c2, c3, hy1, hy2, hy3, hy4⟩ := rpr_at (Rp.below _ H2.out HB.out) (show k2 < r.length by omega)
          cases e1
          have HTH : Hid (r[k2].item = x.item ∧ r[k2].to = x.to → twiceB r k = true) := Lib.hid (fun h => twice_hit hlt HXX.out hlt2 (by omega) h)
          have HNN : Hid (¬ (r[k2].item = x.item ∧ r[k2].to = x.to) → ∀ j, j < k2 + 1 → ∀ hj : j < r.length, ¬ (r[j].item = x.item ∧ r[j].to = x.to)) := Lib.hid (fun h j hj hjl => by
            by_cases e : j = k2
            · subst e; exact h
            · exact HN.out j (by omega) hjl)
          clear hadb
          generalize r[k2] = y at *
          have hb4 := (Below.refl wr.heap.size wr).alloc (Nat.le_refl _) (.cells #[.string (bstr y.item), .string (bstr y.frm), .string (bstr y.to), .int .i64 y.rnd] 43)
          have HB4 := Lib.hid (HB.out.trans (hb4.mono HB.out.size))
          have HX4 := Lib.hid (HX.out.same (same_below hb4) HX.out.lt)
          have hyb := Blk.new wr 43 [.string (bstr y.item), .string (bstr y.frm), .string (bstr y.to), .int .i64 y.rnd]
          have y0 : _ = some (Value.string (bstr y.item)) := hyb.cell 0
          have y2 : _ = some (Value.string (bstr y.to)) := hyb.cell 2
          have x0 : _ = some (Value.string (bstr x.item)) := HX4.out.cell 0
          have x2 : _ = some (Value.string (bstr x.to)) := HX4.out.cell 2
          clear hb4 hyb HB HX
          by_cases hq : y.item = x.item
          · have b1 : ((bstr y.item).toList == (bstr x.item).toList) = true := str_beq (by rw [hq])
            by_cases hq2 : y.to = x.to
            · have b2 : ((bstr y.to).toList == (bstr x.to).toList) = true := str_beq (by rw [hq2])
              have HP := Lib.hid (AftPost.fail (w := w) (F6.out (HTH.out ⟨hq, hq2⟩)) (by decide) HB4.out)
              clear hq hq2 HTH HNN F6 F7
              go_wp2_with fail
              go_ret2
              exact HP.out
            · have b2 : ((bstr y.to).toList == (bstr x.to).toList) = false := str_bne (fun e => hq2 (bstr_inj e))
              have HN2 := Lib.hid (HNN.out (fun h => hq2 h.2))
              clear hq hq2 HTH HNN
              go_wp2_with fail
              go_roundw
              case rel => exact ⟨k2 + 1, by omega, by go_num, HN2.out, HB4, HX4⟩
              case measure => simp [intOf]; omega
          · have b1 : ((bstr y.item).toList == (bstr x.item).toList) = false := str_bne (fun e => hq (bstr_inj e))
            have HN2 := Lib.hid (HNN.out (fun h => hq h.1))
            clear hq HTH HNN
            go_wp2_with fail
            go_roundw
            case rel => exact ⟨k2 + 1, by omega, by go_num, HN2.out, HB4, HX4⟩
            case measure => simp [intOf]; omega
        · obtain rfl : k2 = k := by omega
          have HF7 := Lib.hid (F7.out (twice_none hlt HXX.out HN.out))
          clear F6 F7
          go_wp2_with fail
          go_roundw
          case rel => exact ⟨k2 + 1, by omega, by go_num, HF7.out, HB⟩
          case measure => simp [intOf]; omega
    · obtain rfl : k = r.length := by omega
      have HFO := Lib.hid (aftFault_ok HF0.out h3 HZ.out)
      clear HZ
      have HAF := Lib.hid (aftL_facts l r HHS.out)
      have HAZ := Lib.hid (aftL_sz l r (fun h hh => HSZ.out h hh) (fun x hx => by
        obtain ⟨k, hk, rfl⟩ := List.getElem_of_mem hx
        obtain ⟨_, _, _, _, _, _, _, _, z1, z2, z3, _⟩ := rpr_at H2.out hk
        unfold maxLen; omega))
      go_wp2_with fail
      refine (cloneHeld_any v1 l wr (Rp.ext _ H1.out HB.out) hl3).mono ?_
      rintro e w2 ⟨vo, rfl, hown, hb2⟩
      obtain ⟨wL, hwL⟩ : ∃ wL, wL = wr := ⟨_, rfl⟩
      rw [← hwL] at HB hb2 hown
      clear hwL
      have HO0 : Hid (w2.ownsRow wL.heap.size 47 3 vo (aftL l (r.take 0)).length ((aftL l (r.take 0)).flatMap heldCells)) := Lib.hid hown
      have HB2 := Lib.hid hb2
      clear hown hb2
      go_wp2_with fail
      go_loopw [13, 90] (fun vo vi wr => ∃ k : Nat, k ≤ r.length ∧ vi = .int .i64 k ∧ Hid (wr.ownsRow wL.heap.size 47 3 vo (aftL l (r.take k)).length ((aftL l (r.take k)).flatMap heldCells)) ∧ Hid (Below wL.heap.size wL wr)) (fun _ vi _ => r.length - (intOf vi).toNat)
      case atStart => exact ⟨0, by omega, rfl, HO0, HB2⟩
      case round =>
        clear HO0 HB2
        obtain ⟨k, hk, rfl, HO, HBL0⟩ := hrel
        obtain ⟨A5, c5, rfl, _⟩ := own_form HO.out
        have haf := (HAF.out k hk).2
        have HZL := Lib.hid (HAZ.out k hk)
        by_cases hlt : k < r.length
        · obtain ⟨ad, c', e1, hadb, c0, c1, c2, c3, hz1, hz2, hz3, hz4⟩ := rpr_at (Rp.below _ H2.out (HB.out.trans (HBL0.out.mono HB.out.size))) hlt
          cases e1
          have HLT := Lib.hid (aftL_take l r hlt)
          clear hadb
          generalize r[k] = x at *
          generalize aftL l (r.take k) = L at *
          have hb4 := (Below.refl wr.heap.size wr).alloc (Nat.le_refl _) (.cells #[.string (bstr x.item), .string (bstr x.frm), .string (bstr x.to), .int .i64 x.rnd] 43)
          have HBL := Lib.hid (HBL0.out.trans (hb4.mono HBL0.out.size))
          have HOW := Lib.hid (own_below HO.out hb4)
          have HLE4 := Lib.hid (HBL.out.size)
          have HBW := Lib.hid (HB.out.trans (HBL.out.mono HB.out.size))
          have HX4 := Lib.hid (Blk.new wr 43 [.string (bstr x.item), .string (bstr x.frm), .string (bstr x.to), .int .i64 x.rnd])
          clear hb4 HO HBL0
          go_wp2_with fail
          clear c0 c1 c2 c3
          obtain ⟨bx, hbx⟩ : ∃ bx, wr.heap.size = bx := ⟨_, rfl⟩
          rw [hbx] at HX4 ⊢
          generalize wr.alloc (.cells #[.string (bstr x.item), .string (bstr x.frm), .string (bstr x.to), .int .i64 x.rnd] 43) = w4 at *
          clear hbx
          have KEEP : Hid (∀ w', Below w4.heap.size w4 w' → (w'.cell? ⟨bx, 0, none⟩ = some (.string (bstr x.item)) ∧ w'.cell? ⟨bx, 1, none⟩ = some (.string (bstr x.frm)) ∧ w'.cell? ⟨bx, 2, none⟩ = some (.string (bstr x.to)))) := Lib.hid (fun w' hg => by
            have hk := HX4.out.same (same_below hg) HX4.out.lt
            exact ⟨hk.cell 0, hk.cell 1, hk.cell 2⟩)
          refine wp_region_held_drew (S := fun w' => w'.cell? ⟨bx, 0, none⟩ = some (.string (bstr x.item)) ∧ w'.cell? ⟨bx, 1, none⟩ = some (.string (bstr x.frm)) ∧ w'.cell? ⟨bx, 2, none⟩ = some (.string (bstr x.to))) (by kernel_rfl) (KEEP.out _ (Below.drew (Below.refl _ _))) (fun hHeld => ?_)
          obtain ⟨wq, hwq⟩ : ∃ wq, wq = w4.drew := ⟨_, rfl⟩
          have HGq : Hid (Below w4.heap.size w4 wq) := Lib.hid (by rw [hwq]; exact Below.drew (Below.refl _ _))
          rw [← hwq] at hHeld ⊢
          clear hwq
          refine wpAnyH_take (i := 0) (v := ?_) rfl (by kernel_rfl) (by kernel_rfl) (by kernel_rfl) (fun _ _ _ h => h) (Or.inl ⟨by rfl, ?_⟩) (by assumption) ?_
          rotate_left
          · (intro w hSw; (try dsimp only at hSw); go_simp; try with_reducible rfl)
          try simp only [List.getElem_toArray, List.getElem_cons_succ, List.getElem_cons_zero, Act.put, List.setIfInBounds_toArray, List.set_cons_zero, List.set_cons_succ]
          refine wpAnyH_take (i := 1) (v := ?_) rfl (by kernel_rfl) (by kernel_rfl) (by kernel_rfl) (fun _ _ _ h => h) (Or.inl ⟨by rfl, ?_⟩) (by assumption) ?_
          rotate_left
          · (intro w hSw; (try dsimp only at hSw); go_simp; try with_reducible rfl)
          try simp only [List.getElem_toArray, List.getElem_cons_succ, List.getElem_cons_zero, Act.put, List.setIfInBounds_toArray, List.set_cons_zero, List.set_cons_succ]
          refine wpAnyH_take (i := 2) (v := ?_) rfl (by kernel_rfl) (by kernel_rfl) (by kernel_rfl) (fun _ _ _ h => h) (Or.inl ⟨by rfl, ?_⟩) (by assumption) ?_
          rotate_left
          · (intro w hSw; (try dsimp only at hSw); go_simp; try with_reducible rfl)
          try simp only [List.getElem_toArray, List.getElem_cons_succ, List.getElem_cons_zero, Act.put, List.setIfInBounds_toArray, List.set_cons_zero, List.set_cons_succ]
          refine wpAnyH_take (i := 3) (v := ?_) rfl (by kernel_rfl) (by kernel_rfl) (by kernel_rfl) (fun _ _ _ h => h) (Or.inl ⟨by rfl, ?_⟩) (by assumption) ?_
          rotate_left
          · (intro w hSw; (try dsimp only at hSw); go_simp; try with_reducible rfl)
          try simp only [List.getElem_toArray, List.getElem_cons_succ, List.getElem_cons_zero, Act.put, List.setIfInBounds_toArray, List.set_cons_zero, List.set_cons_succ]
          refine wpAnyH_take (i := 4) (v := ?_) rfl (by kernel_rfl) (by kernel_rfl) (by kernel_rfl) (fun _ _ _ h => h) (Or.inl ⟨by rfl, ?_⟩) (by assumption) ?_
          rotate_left
          · (intro w hSw; (try dsimp only at hSw); go_simp; try with_reducible rfl)
          try simp only [List.getElem_toArray, List.getElem_cons_succ, List.getElem_cons_zero, Act.put, List.setIfInBounds_toArray, List.set_cons_zero, List.set_cons_succ]
          refine wpAnyH_take (i := 5) (v := ?_) rfl (by kernel_rfl) (by kernel_rfl) (by kernel_rfl) (fun _ _ _ h => h) (Or.inl ⟨by rfl, ?_⟩) (by assumption) ?_
          rotate_left
          · (intro w hSw; (try dsimp only at hSw); go_simp; try with_reducible rfl)
          try simp only [List.getElem_toArray, List.getElem_cons_succ, List.getElem_cons_zero, Act.put, List.setIfInBounds_toArray, List.set_cons_zero, List.set_cons_succ]
          refine wpAnyH_take (i := 6) (v := ?_) rfl (by kernel_rfl) (by kernel_rfl) (by kernel_rfl) (fun _ _ _ h => h) (Or.inl ⟨by rfl, ?_⟩) (by assumption) ?_
          rotate_left
          · (intro w hSw; (try dsimp only at hSw); go_simp; try with_reducible rfl)
          try simp only [List.getElem_toArray, List.getElem_cons_succ, List.getElem_cons_zero, Act.put, List.setIfInBounds_toArray, List.set_cons_zero, List.set_cons_succ]
          refine wpAnyH_take (i := 7) (v := ?_) rfl (by kernel_rfl) (by kernel_rfl) (by kernel_rfl) (fun _ _ _ h => h) (Or.inl ⟨by rfl, ?_⟩) (by assumption) ?_
          rotate_left
          · (intro w hSw; (try dsimp only at hSw); go_simp; try with_reducible rfl)
          try simp only [List.getElem_toArray, List.getElem_cons_succ, List.getElem_cons_zero, Act.put, List.setIfInBounds_toArray, List.set_cons_zero, List.set_cons_succ]
          refine wpAnyH_take (i := 8) (v := ?_) rfl (by kernel_rfl) (by kernel_rfl) (by kernel_rfl) (fun _ _ _ h => h) (Or.inl ⟨by rfl, ?_⟩) (by assumption) ?_
          rotate_left
          · (intro w hSw; (try dsimp only at hSw); go_simp; try with_reducible rfl)
          try simp only [List.getElem_toArray, List.getElem_cons_succ, List.getElem_cons_zero, Act.put, List.setIfInBounds_toArray, List.set_cons_zero, List.set_cons_succ]
          refine wpAnyH_take (i := 9) (v := ?_) rfl (by kernel_rfl) (by kernel_rfl) (by kernel_rfl) (fun _ _ _ h => h) (Or.inl ⟨by rfl, ?_⟩) (by assumption) ?_
          rotate_left
          · (intro w hSw; (try dsimp only at hSw); go_simp; try with_reducible rfl)
          try simp only [List.getElem_toArray, List.getElem_cons_succ, List.getElem_cons_zero, Act.put, List.setIfInBounds_toArray, List.set_cons_zero, List.set_cons_succ]
          refine wpAnyH_ready (rs := [10]) (by kernel_rfl) (by simp) ?_
          refine AllReadyH.cons rfl (fun K hK => ?_) AllReadyH.nil
          rw [if_pos (by rfl)]
          simp only [List.getElem_toArray, List.getElem_cons_succ, List.getElem_cons_zero]
          go_simp
          go_at_call 37
          refine (held_any v1 l x.item x.frm _ (Rp.ext _ H1.out (HBW.out.trans (HGq.out.mono HBW.out.size)))).mono ?_
          rintro e w5 ⟨rfl, hw⟩
          have HG5 : Hid (Below w4.heap.size w4 w5) := Lib.hid (HGq.out.trans (hw.mono HGq.out.size))
          clear hw
          show K _ w5
          refine hK.out _ _ (KEEP.out _ HG5.out) (fun hHeld => ?_)
          clear hK K
          try simp only [List.getElem_toArray, List.getElem_cons_succ, List.getElem_cons_zero, Act.put, List.setIfInBounds_toArray, List.set_cons_zero, List.set_cons_succ]
          refine wpAnyH_take (i := 11) (v := ?_) rfl (by kernel_rfl) (by kernel_rfl) (by kernel_rfl) (fun _ _ _ h => h) (Or.inl ⟨by rfl, ?_⟩) (by assumption) ?_
          rotate_left
          · (intro w hSw; (try dsimp only at hSw); go_simp; try with_reducible rfl)
          try simp only [List.getElem_toArray, List.getElem_cons_succ, List.getElem_cons_zero, Act.put, List.setIfInBounds_toArray, List.set_cons_zero, List.set_cons_succ]
          refine wpAnyH_ready (rs := [12]) (by kernel_rfl) (by simp) ?_
          refine AllReadyH.cons rfl (fun K hK => ?_) AllReadyH.nil
          rw [if_pos (by rfl)]
          simp only [List.getElem_toArray, List.getElem_cons_succ, List.getElem_cons_zero]
          go_simp
          go_at_call 38
          refine (put_any A5 c5 wL.heap.size L (rprHeld l x) w5 (own_below HOW.out HG5.out) (Nat.le_trans HLE4.out HG5.out.size) (by omega) HZL.out).mono ?_
          rintro e w6 ⟨v6, rfl, hown, hg⟩
          have HX6 := Lib.hid (blk_own (HX4.out.same (same_below HG5.out) HX4.out.lt) (own_below HOW.out HG5.out) (by decide) hg)
          have HB6 := Lib.hid ((HBL.out.trans (HG5.out.mono HLE4.out)).grown hg (Nat.le_trans HLE4.out HG5.out.size) (fun g e => (HOW.out.lt g e).1))
          rw [← HLT.out] at hown
          have HO6 := Lib.hid hown
          clear hown hg
          show K _ w6
          refine hK.out _ _ ⟨HX6.out.cell 0, HX6.out.cell 1, HX6.out.cell 2⟩ (fun hHeld => ?_)
          clear hK K
          try simp only [List.getElem_toArray, List.getElem_cons_succ, List.getElem_cons_zero, Act.put, List.setIfInBounds_toArray, List.set_cons_zero, List.set_cons_succ]
          refine wpAnyH_take (i := 13) (v := ?_) rfl (by kernel_rfl) (by kernel_rfl) (by kernel_rfl) (fun _ _ _ h => h) (Or.inl ⟨by rfl, ?_⟩) (by assumption) ?_
          rotate_left
          · (intro w hSw; (try dsimp only at hSw); go_simp; try with_reducible rfl)
          try simp only [List.getElem_toArray, List.getElem_cons_succ, List.getElem_cons_zero, Act.put, List.setIfInBounds_toArray, List.set_cons_zero, List.set_cons_succ]
          refine wpAnyH_done (by kernel_rfl) ?_ _
          clear hHeld KEEP
          obtain ⟨A6, c6, rfl, _⟩ := own_form HO6.out
          go_wp2_with fail
          go_roundw
          case rel => exact ⟨k + 1, by omega, by go_num, HO6, HB6⟩
          case measure => simp [intOf]; omega
        · obtain rfl : k = r.length := by omega
          rw [List.take_length] at *
          by_cases h4 : 3000 < (aftL l r).length
          · have HP := Lib.hid (AftPost.fail (w := w) (show aftFault s l r = 2 by rw [HFO.out, if_pos h4]) (by decide) (HB.out.trans (HBL0.out.mono HB.out.size)))
            have h4' : (3000 : Int) < ((aftL l r).length : Int) := by omega
            clear HO
            go_wp2_with fail
            go_ret2
            exact HP.out
          · have HP := Lib.hid (AftPost.done (w := w) (s := s) (by rw [HFO.out, if_neg h4]) HO.out HZL.out (HB.out.trans (HBL0.out.mono HB.out.size)))
            have h4' : ¬ (3000 : Int) < ((aftL l r).length : Int) := by omega
            clear HO
            go_wp2_with fail
            go_ret2
            exact HP.out
end Go.Proofs.YtdklocgaimejgaaDoor
