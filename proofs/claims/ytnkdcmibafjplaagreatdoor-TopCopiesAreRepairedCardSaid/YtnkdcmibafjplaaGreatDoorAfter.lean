/-
  'After' of package care.
-/
import Derived.Test.YtnkdcmibafjplaaGreatDoorAfSt
namespace Go.Proofs.YtnkdcmibafjplaaGreatDoor
open Go.RowKit
set_option linter.unusedVariables false
set_option linter.unusedSimpArgs false

set_option maxRecDepth 100000 in
set_option maxHeartbeats 8000000 in
theorem after_any (v0 : Value) (s : List Site) (v1 : Value) (l : List Held) (v2 : Value) (r : List Rpr) (w : World) (h0 : (Rp.sl siteRp).ok w (· < w.heap.size) [v0] s) (h1 : (Rp.sl heldRp).ok w (· < w.heap.size) [v1] l) (h2 : (Rp.sl rprRp).ok w (· < w.heap.size) [v2] r) :
    Calls Tryz.prog 13 #[v0, v1, v2] w (AftPost s l r w) := by
  have H0 := Lib.hid h0
  have H1 := Lib.hid h1
  have H2 := Lib.hid h2
  obtain ⟨A2, c2s, rfl, hl2, hc2, _⟩ := Rp.sl_open h2
  unfold maxLen at hc2
  have HSZ := Lib.hid (held_sizes h1)
  clear h0 h1 h2
  have hmm := @run_makeMap Tryz.prog
  go_enter Tryz.func13, Tryz.ntmps13
  go_wp2_with fail
  refine (checkCopies_any _ s v1 l w H0.out H1.out).mono ?_
  rintro e w1 ⟨rfl, hb1⟩
  have HB1 := Lib.hid hb1
  clear hb1
  by_cases hf : copiesFault s l = 0
  case neg =>
    have HP := Lib.hid (AftPost.fail (w := w) (r := r) (show aftFault s l r = copiesFault s l by rw [aftFault, if_pos hf]) hf HB1.out)
    have hb : (copiesFault s l != 0) = true := by simpa using hf
    generalize copiesFault s l = f at *
    go_wp2_with fail
    go_ret2
    exact HP.out
  rw [hf]
  have HF0 := Lib.hid hf
  clear hf
  by_cases h3 : 3000 < r.length
  · have HP := Lib.hid (AftPost.fail (w := w) (show aftFault s l r = 2 by rw [aftFault, if_neg (by rw [HF0.out]; decide), if_pos h3]) (by decide) HB1.out)
    have h3' : (3000 : Int) < (r.length : Int) := by omega
    go_wp2_with fail
    go_ret2
    exact HP.out
  have h3' : ¬ (3000 : Int) < (r.length : Int) := by omega
  have hl3 := (copies_ok HF0.out).2.1
  have HHS := Lib.hid (copies_hs HF0.out)
  go_wp2_with fail
  refine (cloneHeld_any v1 l w1 (Rp.ext _ H1.out HB1.out) hl3).mono ?_
  rintro e w2 ⟨vo, rfl, hown, hb2⟩
  have hi0 := VMap.made (P := Tryz.prog) (K := 54) (z := .bool false) w2
  have hbm := (Below.refl w2.heap.size w2).alloc (Nat.le_refl _) (.map #[] 0)
  have HST0 : Hid (AfSt w1.heap.size w2.heap.size w1 (aftL l (r.take 0)) 0 (fun _ => none) vo (w2.alloc (.map #[] 0))) := Lib.hid {
    row := own_below hown hbm
    map := hi0
    below := hb2.trans (hbm.mono hb2.size)
    le := Nat.le_trans hb2.size hbm.size
    mbB := hb2.size }
  clear hown hi0 hbm
  have hmbB : w1.heap.size ≤ w2.heap.size := hb2.size
  clear hb2
  go_wp2_with fail
  have HMM := Lib.hid hmm
  clear hmm
  obtain ⟨mb, hmb⟩ : ∃ mb, w2.heap.size = mb := ⟨_, rfl⟩
  rw [hmb] at HST0 hmbB ⊢
  generalize w2.alloc (.map #[] 0) = wm at *
  clear hmb
  have HAF := Lib.hid (aftL_facts l r HHS.out)
  have HAZ := Lib.hid (aftL_sz l r (fun h hh => HSZ.out h hh) (fun x hx => by
    obtain ⟨k, hk, rfl⟩ := List.getElem_of_mem hx
    obtain ⟨_, _, _, _, _, _, _, _, z1, z2, z3, _⟩ := rpr_at H2.out hk
    unfold maxLen; omega))
  go_loopw [9, 31] (fun vo vi wr => ∃ (k : Nat) (f : Lit → Option Value), k ≤ r.length ∧ vi = .int .i64 k ∧ Hid (∀ j, j < k → aftF s l r j = 0) ∧ Hid (DoneOk (r.take k) f) ∧ Hid (AfSt w1.heap.size mb w1 (aftL l (r.take k)) k f vo wr)) (fun _ vi _ => r.length - (intOf vi).toNat)
  case atStart => exact ⟨0, _, by omega, rfl, (fun j hj => absurd hj (by omega)), DoneOk.nil, HST0⟩
  case round =>
    clear HST0
    obtain ⟨k, f, hk, rfl, HZ, HD, HST⟩ := hrel
    obtain ⟨A5, c5, rfl, _⟩ := own_form HST.out.row
    have haf := HAF.out k hk
    by_cases hlt : k < r.length
    · obtain ⟨ad, c', e1, hadb, c0, c1, c2, c3, hz1, hz2, hz3, hz4⟩ := rpr_at (Rp.below _ H2.out (HB1.out.trans (HST.out.below.mono HB1.out.size))) hlt
      cases e1
      have F1 := Lib.hid (fun h => aftFault_at HF0.out h3 hlt HZ.out (aftF_1 hlt h) (by decide))
      have F2 := Lib.hid (fun h h2 => aftFault_at HF0.out h3 hlt HZ.out (aftF_2 hlt h h2) (by decide))
      have F3 := Lib.hid (fun h h2 h3' => aftFault_at HF0.out h3 hlt HZ.out (aftF_3 hlt h h2 h3') (by decide))
      have F4 := Lib.hid (fun h h2 h3' h4 => aftFault_at HF0.out h3 hlt HZ.out (aftF_4 hlt h h2 h3' h4) (by decide))
      have F5 := Lib.hid (fun h h2 h3' h4 h5 => aftFault_at HF0.out h3 hlt HZ.out (aftF_5 hlt h h2 h3' h4 h5) (by decide))
      have F6 := Lib.hid (fun h h2 h3' h4 h5 h6 => aftFault_at HF0.out h3 hlt HZ.out (aftF_6 hlt h h2 h3' h4 h5 h6) (by decide))
      have F7 := Lib.hid (fun h h2 h3' h4 h5 h6 => firstF_step HZ.out (aftF_7 (s := s) (l := l) hlt h h2 h3' h4 h5 h6))
      have HLT := Lib.hid (aftL_take l r hlt)
      have HTW : Hid (twiceB r k = (r.take k).any fun y => decide (y.item = r[k].item ∧ y.to = r[k].to)) := Lib.hid (by unfold twiceB; rw [getD_at _ _ hlt])
      have HTK : Hid (r.take (k + 1) = r.take k ++ [r[k]]) := Lib.hid (List.take_succ_eq_append_getElem hlt)
      clear hadb
      generalize hx : r[k] = x at *
      clear hx
      have hb4 := (Below.refl wr.heap.size wr).alloc (Nat.le_refl _) (.cells #[.string (bstr x.item), .string (bstr x.frm), .string (bstr x.to), .int .i64 x.rnd] 106)
      have HS4a := Lib.hid (HST.out.next hb4)
      have HX4a := Lib.hid (Blk.new wr 106 [.string (bstr x.item), .string (bstr x.frm), .string (bstr x.to), .int .i64 x.rnd])
      have y0 : _ = some (Value.string (bstr x.item)) := HX4a.out.cell 0
      have y2 : _ = some (Value.string (bstr x.to)) := HX4a.out.cell 2
      have hb5 := (Below.refl (wr.alloc (.cells #[.string (bstr x.item), .string (bstr x.frm), .string (bstr x.to), .int .i64 x.rnd] 106)).heap.size _).alloc (Nat.le_refl _) (.cells #[.string (bstr x.item), .string (bstr x.to), .string ⟨#[]⟩] 54)
      have HS4 := Lib.hid (HS4a.out.next hb5)
      have HX4 := Lib.hid (HX4a.out.same (same_below hb5) HX4a.out.lt)
      have HT4 := Lib.hid (Blk.new (wr.alloc (.cells #[.string (bstr x.item), .string (bstr x.frm), .string (bstr x.to), .int .i64 x.rnd] 106)) 54 [.string (bstr x.item), .string (bstr x.to), .string ⟨#[]⟩])
      have x0 : _ = some (Value.string (bstr x.item)) := HX4.out.cell 0
      have x1 : _ = some (Value.string (bstr x.frm)) := HX4.out.cell 1
      have x2 : _ = some (Value.string (bstr x.to)) := HX4.out.cell 2
      have x3 : _ = some (Value.int .i64 x.rnd) := HX4.out.cell 3
      clear hb4 hb5 HST HS4a HX4a
      go_wp2_with fail
      clear y0 y2 c0 c1 c2 c3
      rw [World.size_alloc] at HT4
      obtain ⟨bx, hbx⟩ : ∃ bx, wr.heap.size = bx := ⟨_, rfl⟩
      rw [hbx] at HX4 HT4 x0 x1 x2 x3 ⊢
      generalize (wr.alloc (.cells #[.string (bstr x.item), .string (bstr x.frm), .string (bstr x.to), .int .i64 x.rnd] 106)).alloc (.cells #[.string (bstr x.item), .string (bstr x.to), .string ⟨#[]⟩] 54) = w4 at *
      clear hbx
      refine (copyAt_any v1 l x.item x.frm w4 (Rp.ext _ H1.out (HB1.out.trans (HS4.out.below.mono HB1.out.size))) HHS.out (by omega)).mono ?_
      rintro e w5 ⟨rfl, hb⟩
      have HS5 := Lib.hid (HS4.out.next hb)
      have HX5 := Lib.hid (HX4.out.same (same_below hb) HX4.out.lt)
      have HT5 := Lib.hid (HT4.out.same (same_below hb) HT4.out.lt)
      clear hb HS4 HX4 HT4 x0 x1 x2 x3
      have x0 : w5.cell? ⟨bx, 0, none⟩ = some (.string (bstr x.item)) := HX5.out.cell 0
      have x1 : w5.cell? ⟨bx, 1, none⟩ = some (.string (bstr x.frm)) := HX5.out.cell 1
      have x2 : w5.cell? ⟨bx, 2, none⟩ = some (.string (bstr x.to)) := HX5.out.cell 2
      have x3 : w5.cell? ⟨bx, 3, none⟩ = some (.int .i64 x.rnd) := HX5.out.cell 3
      go_wp2_with fail
      refine (isName_any x.item _ hz1).mono ?_
      rintro e w6 ⟨rfl, hb⟩
      have HS6 := Lib.hid (HS5.out.next hb)
      have HX6 := Lib.hid (HX5.out.same (same_below hb) HX5.out.lt)
      have HT6 := Lib.hid (HT5.out.same (same_below hb) HT5.out.lt)
      clear hb HS5 HX5 HT5 x0 x1 x2 x3
      have x0 : w6.cell? ⟨bx, 0, none⟩ = some (.string (bstr x.item)) := HX6.out.cell 0
      have x1 : w6.cell? ⟨bx, 1, none⟩ = some (.string (bstr x.frm)) := HX6.out.cell 1
      have x2 : w6.cell? ⟨bx, 2, none⟩ = some (.string (bstr x.to)) := HX6.out.cell 2
      have x3 : w6.cell? ⟨bx, 3, none⟩ = some (.int .i64 x.rnd) := HX6.out.cell 3
      cases hnm : isNm x.item with
      | false =>
        have HP := Lib.hid (AftPost.fail (w := w) (F1.out hnm) (by decide) (HB1.out.trans (HS6.out.below.mono HB1.out.size)))
        clear F1 F2 F3 F4 F5 F6 F7 hnm
        go_wp2_with fail
        go_ret2
        exact HP.out
      | true =>
      have F2' := F2.out hnm
      have F3' := F3.out hnm
      have F4' := F4.out hnm
      have F5' := F5.out hnm
      have F6' := F6.out hnm
      have F7' := F7.out hnm
      clear F1 F2 F3 F4 F5 F6 F7 hnm
      go_wp2_with fail
      refine (siteAt_any _ s x.frm _ (Rp.ext _ H0.out (HB1.out.trans (HS6.out.below.mono HB1.out.size)))).mono ?_
      rintro e w7 ⟨rfl, hb⟩
      have HS7 := Lib.hid (HS6.out.next hb)
      have HX7 := Lib.hid (HX6.out.same (same_below hb) HX6.out.lt)
      have HT7 := Lib.hid (HT6.out.same (same_below hb) HT6.out.lt)
      clear hb HS6 HX6 HT6 x0 x1 x2 x3
      have x0 : w7.cell? ⟨bx, 0, none⟩ = some (.string (bstr x.item)) := HX7.out.cell 0
      have x1 : w7.cell? ⟨bx, 1, none⟩ = some (.string (bstr x.frm)) := HX7.out.cell 1
      have x2 : w7.cell? ⟨bx, 2, none⟩ = some (.string (bstr x.to)) := HX7.out.cell 2
      have x3 : w7.cell? ⟨bx, 3, none⟩ = some (.int .i64 x.rnd) := HX7.out.cell 3
      by_cases hsi : siteIdx s x.frm < 0
      · have HP := Lib.hid (AftPost.fail (w := w) (F2' hsi) (by decide) (HB1.out.trans (HS7.out.below.mono HB1.out.size)))
        clear F2' F3' F4' F5' F6' F7'
        generalize siteIdx s x.frm = si at *
        go_wp2_with fail
        go_ret2
        exact HP.out
      have F3 := Lib.hid (F3' (by omega))
      have F4 := Lib.hid (F4' (by omega))
      have F5 := Lib.hid (F5' (by omega))
      have F6 := Lib.hid (F6' (by omega))
      have F7 := Lib.hid (F7' (by omega))
      clear F2' F3' F4' F5' F6' F7'
      generalize siteIdx s x.frm = si at *
      go_wp2_with fail
      refine (siteAt_any _ s x.to _ (Rp.ext _ H0.out (HB1.out.trans (HS7.out.below.mono HB1.out.size)))).mono ?_
      rintro e w8 ⟨rfl, hb⟩
      have HS8 := Lib.hid (HS7.out.next hb)
      have HX8 := Lib.hid (HX7.out.same (same_below hb) HX7.out.lt)
      have HT8 := Lib.hid (HT7.out.same (same_below hb) HT7.out.lt)
      clear hb HS7 HX7 HT7 x0 x1 x2 x3
      have x0 : w8.cell? ⟨bx, 0, none⟩ = some (.string (bstr x.item)) := HX8.out.cell 0
      have x1 : w8.cell? ⟨bx, 1, none⟩ = some (.string (bstr x.frm)) := HX8.out.cell 1
      have x2 : w8.cell? ⟨bx, 2, none⟩ = some (.string (bstr x.to)) := HX8.out.cell 2
      have x3 : w8.cell? ⟨bx, 3, none⟩ = some (.int .i64 x.rnd) := HX8.out.cell 3
      by_cases hsj : siteIdx s x.to < 0
      · have HP := Lib.hid (AftPost.fail (w := w) (F3.out hsj) (by decide) (HB1.out.trans (HS8.out.below.mono HB1.out.size)))
        clear F3 F4 F5 F6 F7
        generalize siteIdx s x.to = sj at *
        go_wp2_with fail
        go_ret2
        exact HP.out
      have F4' := F4.out (by omega)
      have F5' := F5.out (by omega)
      have F6' := F6.out (by omega)
      have F7' := F7.out (by omega)
      clear F3 F4 F5 F6 F7
      generalize siteIdx s x.to = sj at *
      go_wp2_with fail
      refine (cwithin_any x.rnd 1 3000 _).mono ?_
      rintro e w9 ⟨rfl, rfl⟩
      cases hwi : withinB x.rnd 1 3000 with
      | false =>
        have HP := Lib.hid (AftPost.fail (w := w) (F4' hwi) (by decide) (HB1.out.trans (HS8.out.below.mono HB1.out.size)))
        clear F4' F5' F6' F7' hwi
        go_wp2_with fail
        go_ret2
        exact HP.out
      | true =>
      have F5 := Lib.hid (F5' hwi)
      have F6 := Lib.hid (F6' hwi)
      have F7 := Lib.hid (F7' hwi)
      clear F4' F5' F6' F7' hwi
      have HDG : Hid (rprHeld l x = ⟨x.item, x.to, heldL x.item x.frm l⟩) := Lib.hid rfl
      generalize heldL x.item x.frm l = dg at *
      by_cases hdg : dg = []
      · have HP := Lib.hid (AftPost.fail (w := w) (F5.out hdg) (by decide) (HB1.out.trans (HS8.out.below.mono HB1.out.size)))
        have hem : (bstr dg).toList.isEmpty = true := by rw [hdg, bstr_toList]; rfl
        clear F5 F6 F7 hdg
        go_wp2_with fail
        go_ret2
        exact HP.out
      have hem : (bstr dg).toList.isEmpty = false := by
        rw [bstr_toList]; cases dg with | nil => exact absurd rfl hdg | cons _ _ => rfl
      have F6' := F6.out hdg
      have F7' := F7.out hdg
      clear F5 F6 F7 hdg
      have F6 := Lib.hid F6'
      have F7 := Lib.hid F7'
      clear F6' F7'
      have t0 : w8.cell? ⟨bx + 1, 0, none⟩ = some (.string (bstr x.item)) := HT8.out.cell 0
      have t1 : w8.cell? ⟨bx + 1, 1, none⟩ = some (.string (bstr x.to)) := HT8.out.cell 1
      have t2 : w8.cell? ⟨bx + 1, 2, none⟩ = some (.string ⟨#[]⟩) := HT8.out.cell 2
      obtain ⟨kl, hkl⟩ := held_key (bstr x.item) (bstr x.to) (by rw [bstr_size]; unfold maxLen; omega) (by rw [bstr_size]; unfold maxLen; omega)
      have HKL := Lib.hid hkl
      have hlk : (Instr.lookup 108 (.map (some mb)) (.agg #[.string (bstr x.item), .string (bstr x.to), .string ⟨#[]⟩]) false).run Tryz.prog w8 = .ok (.bool (twiceB r k)) w8 := by
        have := HS8.out.map.look (T := 108) held_law Tryz.underlying108 bool_zeroA hkl (held_law.key hkl)
        rw [HD.out x.item x.to kl hkl, ← HTW.out] at this
        rw [this]
        cases twiceB r k <;> rfl
      clear hkl
      cases htw : twiceB r k with
      | true =>
        rw [htw] at hlk
        have HP := Lib.hid (AftPost.fail (w := w) (F6.out htw) (by decide) (HB1.out.trans (HS8.out.below.mono HB1.out.size)))
        clear F6 F7 htw
        go_wp2_with fail
        go_ret2
        exact HP.out
      | false =>
      rw [htw] at hlk
      have HF7 := Lib.hid (F7.out htw)
      clear F6 F7 htw x0 x1 x2 x3
      go_wp2_with (at_mapUpdate; refine vmap_update rfl _ _ _ 108 rfl HS8.out.map held_law Tryz.underlying108 (by unfold maxLen; omega) kl (.bool true) rfl rfl rfl HKL.out (held_law.key HKL.out) ?_; intro w9 HI9 HG9; have HS9 := Lib.hid (HS8.out.put HI9.out HG9.out); have HT9 := Lib.hid (HT8.out.same (grown_same HG9.out) ⟨HT8.out.lt, fun e => vmap_blk HS8.out.map HT8.out (Option.some.inj e)⟩); have t0 : w9.cell? ⟨bx + 1, 0, none⟩ = some (.string (bstr x.item)) := HT9.out.cell 0; have t1 : w9.cell? ⟨bx + 1, 1, none⟩ = some (.string (bstr x.to)) := HT9.out.cell 1; have t2 : w9.cell? ⟨bx + 1, 2, none⟩ = some (.string ⟨#[]⟩) := HT9.out.cell 2; clear HI9 HG9 HS8 HX8 HT8 hlk)
      have HD9 := Lib.hid (HD.out.put x HKL.out)
      rw [← HTK.out] at HD9
      clear t0 t1 t2 HKL HD HTK HTW
      have HZL := Lib.hid (HAZ.out k hk)
      have haf1 := haf.1
      have haf2 := haf.2
      generalize aftL l (r.take k) = L at *
      refine (bsHeld_any _ L ⟨x.item, x.to, []⟩ w9 (held_read HS9.out.row HZL.out) haf1 (by omega)).mono ?_
      rintro e w10 ⟨rfl, hb⟩
      have HS10 := Lib.hid (HS9.out.next hb)
      have HT10 := Lib.hid (HT9.out.same (same_below hb) HT9.out.lt)
      have t0 : w10.cell? ⟨bx + 1, 0, none⟩ = some (.string (bstr x.item)) := HT10.out.cell 0
      have t1 : w10.cell? ⟨bx + 1, 1, none⟩ = some (.string (bstr x.to)) := HT10.out.cell 1
      have t2 : w10.cell? ⟨bx + 1, 2, none⟩ = some (.string ⟨#[]⟩) := HT10.out.cell 2
      clear hb HS9 HT9
      cases hht : hitL L ⟨x.item, x.to, []⟩ with
      | true =>
        obtain ⟨hkL, hput⟩ := put_hit (d := dg) hht
        have HPUT := Lib.hid hput
        clear hput hht t0 t1 t2 HT10
        generalize lbN L ⟨x.item, x.to, []⟩ = q at *
        obtain ⟨g, rfl⟩ : ∃ g, A5 = some ⟨g, 0, none⟩ := by
          rcases HS10.out.row.2 with ⟨e1, e2⟩ | ⟨g, cap, cur, e1, _⟩
          · omega
          · injection e1 with e1 _ _; exact ⟨g, e1⟩
        have hcl := HS10.out.cell hkL
        have d0 := hcl.1
        have d1 := hcl.2
        have HS11 := Lib.hid (HS10.out.dig hkL rfl dg)
        rw [HPUT.out, ← HDG.out, ← HLT.out] at HS11
        have hq0 : (0 : Int) ≤ (q : Int) := by omega
        have hqL : (q : Int) < (L.length : Int) := by omega
        clear hcl HPUT
        go_wp2_with fail
        go_roundw
        case rel => exact ⟨k + 1, _, by omega, by go_num, HF7.out, HD9.out, HS11⟩
        case measure => simp [intOf]; omega
      | false =>
        obtain ⟨hkL, hput⟩ := put_miss (d := dg) hht
        have HPUT := Lib.hid hput
        have hle := lbN_le L ⟨x.item, x.to, []⟩
        have HFI := Lib.hid (flat_ins L (lbN L ⟨x.item, x.to, []⟩) hle ⟨x.item, x.to, []⟩)
        have hlL : (L.take (lbN L ⟨x.item, x.to, []⟩) ++ (⟨x.item, x.to, []⟩ : Held) :: L.drop (lbN L ⟨x.item, x.to, []⟩)).length = L.length + 1 := by
          rw [List.length_append, List.length_take, List.length_cons, List.length_drop]; omega
        clear hput hht HT10
        generalize lbN L ⟨x.item, x.to, []⟩ = q at *
        have hbA := (Below.refl w10.heap.size w10).alloc (Nat.le_refl _) (.cells #[.string (bstr x.item), .string (bstr x.to), .string ⟨#[]⟩] 54)
        have HSA := Lib.hid (HS10.out.next hbA)
        have HBN := Lib.hid (Blk.new w10 54 [.string (bstr x.item), .string (bstr x.to), .string ⟨#[]⟩])
        have HNE : Hid (some w10.heap.size ≠ (Value.slice A5 L.length c5).ownBlock) := Lib.hid (fun e => by have := (HS10.out.row.lt _ e.symm).2; omega)
        clear hbA HS10
        go_wp2_with fail
        clear t0 t1 t2
        refine (insHeld_any _ L.length q w1.heap.size w10.heap.size (L.flatMap heldCells) [.string (bstr x.item), .string (bstr x.to), .string ⟨#[]⟩] _ HSA.out.row HSA.out.le hle (by omega) rfl (by simp [Value.oneCell']) (fun u hu => by obtain ⟨y, _, hy⟩ := List.mem_flatMap.1 hu; simp [heldCells] at hy; rcases hy with rfl | rfl | rfl <;> rfl) HBN.out HNE.out).mono ?_
        rintro e w11 ⟨g, c, rfl, hown, hg, _⟩
        have hown2 : w11.ownsRow w1.heap.size 54 3 (.slice (some ⟨g, 0, none⟩) (L.length + 1) c) (L.length + 1) ((L.take q ++ (⟨x.item, x.to, []⟩ : Held) :: L.drop q).flatMap heldCells) := by rw [← HFI.out]; exact hown
        rw [← hlL] at hown2
        have HS11 := Lib.hid (HSA.out.ins hown2 hg)
        clear hown hown2 hg HSA HBN HNE HFI
        generalize (L.take q ++ (⟨x.item, x.to, []⟩ : Held) :: L.drop q) = L' at *
        rw [hlL] at HS11
        have hcl := HS11.out.cell hkL
        have d0 := hcl.1
        have d1 := hcl.2
        have HS12 := Lib.hid (HS11.out.dig hkL hlL.symm dg)
        rw [HPUT.out, ← HDG.out, ← HLT.out] at HS12
        have hq0 : (0 : Int) ≤ (q : Int) := by omega
        have hqL : (q : Int) < (L.length : Int) + 1 := by omega
        clear hcl HPUT
        go_wp2_with fail
        go_roundw
        case rel => exact ⟨k + 1, _, by omega, by go_num, HF7.out, HD9.out, HS12⟩
        case measure => simp [intOf]; omega
    · obtain rfl : k = r.length := by omega
      rw [List.take_length] at *
      have hfo := aftFault_ok HF0.out h3 HZ.out
      have HZL := HAZ.out r.length (Nat.le_refl _)
      rw [List.take_length] at HZL
      by_cases h4 : 3000 < (aftL l r).length
      · have HP := Lib.hid (AftPost.fail (w := w) (show aftFault s l r = 2 by rw [hfo, if_pos h4]) (by decide) (HB1.out.trans (HST.out.below.mono HB1.out.size)))
        have h4' : (3000 : Int) < ((aftL l r).length : Int) := by omega
        clear hfo HZL HST
        go_wp2_with fail
        go_ret2
        exact HP.out
      · have HP := Lib.hid (AftPost.done (w := w) (s := s) (by rw [hfo, if_neg h4]) HST.out.row HZL (HB1.out.trans (HST.out.below.mono HB1.out.size)))
        have h4' : ¬ (3000 : Int) < ((aftL l r).length : Int) := by omega
        clear hfo HZL HST
        go_wp2_with fail
        go_ret2
        exact HP.out
end Go.Proofs.YtnkdcmibafjplaaGreatDoor
