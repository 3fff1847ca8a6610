/-
  'Kept' of the reference.
-/
import Derived.Test.YtofahmdjhpbecaaProg
import Derived.Test.YtofahmdjhpbecaaKept
import Derived.Test.YtofahmdjhpbecaaRefDelta
import Derived.Test.YtofahmdjhpbecaaRefDB
namespace Go.Proofs.Ytofahmdjhpbecaa
open Go.RowKit
set_option linter.unusedVariables false
set_option linter.unusedSimpArgs false

theorem db_zero {base b : List UInt8} (h1 : base.length ≤ 3000) (h2 : b.length ≤ 3000) : dbFault (deltaL base b) = 0 := by
  have hl := deltaL_len (base := base) (b := b)
  have hs := delta_small (base := base) h2
  rw [dbFault, if_neg (by omega), if_neg (by rw [dbChk_zero (deltaL_range h1 h2)]; decide), if_neg (by omega)]
theorem db_zero_out {base b : List UInt8} (h1 : base.length ≤ 3000) (h2 : b.length ≤ 3000) : dbOut (deltaL base b) = dBytes (deltaL base b) := by rw [dbOut, if_pos (db_zero h1 h2)]

set_option maxRecDepth 100000 in
set_option maxHeartbeats 4000000 in
theorem refKept_any (v : Value) (l : List (List UInt8)) (most : Int) (w : World) (h : (Rp.sl (Rp.sl Rp.u8)).ok w (· < w.heap.size) [v] l) :
    Calls Try.prog 47 #[v, .int .i64 most] w (KeptPost l most w) := by
  obtain ⟨A, c, rfl, hl, hc, _⟩ := Rp.sl_open h
  unfold maxLen at hc
  have H := Lib.hid h
  clear h
  by_cases hbig : 300 < l.length
  · have HP := Lib.hid (keptPost_bad (w := w) (w' := w) (keptFault_many (most := most) hbig) (by decide) (Below.refl _ _))
    go_enter Try.func47, Try.ntmps47
    go_wp2
    go_ret2
    exact HP.out
  go_enter Try.func47, Try.ntmps47
  go_wp2
  go_loop [21] (fun i => ∃ k : Nat, k ≤ l.length ∧ i = .int .i64 k ∧ Hid (∀ b ∈ l.take k, b.length ≤ 3000)) (fun i => l.length - (intOf i).toNat)
  case atStart => exact ⟨0, by omega, rfl, by simp [Hid]⟩
  case round =>
    obtain ⟨k, hk, rfl, HT⟩ := hrel
    by_cases hlt : k < l.length
    · obtain ⟨ad, u, rfl, _, hu, hcell⟩ := Rp.sl_at1 rfl H.out hlt
      obtain ⟨A2, c2, rfl, hl2, hc2, _⟩ := Rp.sl_open hu
      unfold maxLen at hc2
      clear hu
      by_cases hlong : 3000 < l[k].length
      · have HP := Lib.hid (keptPost_bad (w := w) (w' := w) (keptFault_long (most := most) hlt hlong) (by decide) (Below.refl _ _))
        go_wp2
        go_ret2
        exact HP.out
      · have HT2 : Hid (∀ b ∈ l.take (k + 1), b.length ≤ 3000) := fun b hb => by
          rw [List.take_succ_eq_append_getElem hlt, List.mem_append, List.mem_singleton] at hb
          rcases hb with hb | rfl
          · exact HT.out b hb
          · omega
        go_wp2
        go_round
        case rel => exact ⟨k + 1, by omega, by go_num, HT2⟩
        case measure => simp [intOf]; omega
    · have hT : ∀ b ∈ l, b.length ≤ 3000 := fun b hb => HT.out b (by rw [List.take_of_length_le (by omega)]; exact hb)
      have hkb := keptBad_no (by omega) hT
      have HT2 := Lib.hid hT
      have HKB := Lib.hid hkb
      clear hT hkb HT
      by_cases hmo : most < 0 ∨ 300 < most
      · have HP := Lib.hid (keptPost_bad (l := l) (most := most) (w := w) (w' := w) (f := 1) (by rw [keptFault, HKB.out, if_pos hmo]; rfl) (by decide) (Below.refl _ _))
        have hwi : withinB most 0 300 = false := decide_eq_false (by omega)
        clear hmo
        go_wp2_with fail
        refine (within_any most 0 300 _).mono ?_
        rintro e w1 ⟨rfl, rfl⟩
        rw [hwi]
        go_wp2
        go_ret2
        exact HP.out
      · have HF : Hid (keptFault l most = 0) := by show _ = _; rw [keptFault, HKB.out, if_neg hmo]; rfl
        have q1 : 0 ≤ most := by omega
        have q2 : most ≤ 300 := by omega
        have hwi : withinB most 0 300 = true := decide_eq_true ⟨q1, q2⟩
        clear hmo
        go_wp2_with fail
        refine (within_any most 0 300 _).mono ?_
        rintro e w1 ⟨rfl, rfl⟩
        rw [hwi]
        go_wp2
        go_loopw [8, 9, 34] (fun vo vr i wr => ∃ k : Nat, k ≤ l.length ∧ i = .int .i64 k ∧ vr = .int .i64 ((keptK l most k).2 : Nat) ∧ Hid (Rows verRp 118 w.heap.size wr vo (keptK l most k).1) ∧ Hid (Below w.heap.size w wr))
          (fun _ _ i _ => l.length - (intOf i).toNat)
        case atStart => exact ⟨0, by omega, rfl, rfl, Rows.nil _ _ _ _, Below.refl _ _⟩
        case round =>
          obtain ⟨k, hk, rfl, rfl, HR, HB⟩ := hrel
          have hwsz := HB.out.size
          have hkl := keptK_len l most k
          obtain ⟨hkl1, hkl2⟩ := hkl
          by_cases hlt : k < l.length
          · obtain ⟨ad, u, rfl, _, hu, hcell⟩ := Rp.sl_at1 rfl (Rp.below _ H.out HB.out) hlt
            obtain ⟨A2, c2, rfl, hl2, hc2, _⟩ := Rp.sl_open hu
            unfold maxLen at hc2
            have HU := Lib.hid hu
            have hb3 := HT2.out _ (List.getElem_mem hlt)
            obtain ⟨A5, c5, rfl, hn5, hc5, hown5⟩ := HR.out.form
            rw [hkl1] at hn5 hown5
            have HOWN := Lib.hid hown5
            obtain ⟨xs, hown, hpush⟩ := HR.out.open_ (by decide)
            rw [hkl1] at hown hpush ⊢
            have HO := Lib.hid hown
            have HPU := Lib.hid hpush
            clear hu hown hpush hown5
            generalize hrow : (keptK l most k).2 = row at *
            have HROW := Lib.hid hrow
            clear hrow
            have HRF := Lib.hid (Below.refl wr.heap.size wr)
            cases k with
            | zero =>
              rw [add_nil] at hcell
              have HKW := Lib.hid (keptK_whole (most := most) hlt (by omega))
              go_wp2_with fail
              refine (clone_any _ l[0] wr (Rp.keep _ HU.out (S' := fun g => g < wr.heap.size) (same_both HB.out HB.out) (fun g hg => by have := HB.out.size; omega)) (by omega)).mono ?_
              intro e w7 hq
              obtain ⟨vb, rfl, hv, hb7⟩ := clone_read hq
              obtain ⟨A9, c9, rfl, _⟩ := Rp.sl_open hv
              have HV := Lib.hid (Rp.sub _ hv (T := fun b => b < w7.heap.size ∧ (Value.slice A5 0 c5).ownBlock ≠ some b) (fun b hb => ⟨hb.2, fun e => by have := (HOWN.out b e).2; have := HRF.out.size; omega⟩))
              have HQR7 := Lib.hid (ext_trans HRF.out hb7)
              have HQX7 := Lib.hid (HB.out.trans (hb7.mono HB.out.size))
              have HO7 := Lib.hid (HO.out.kept (below_grown HQR7.out) (by cases hvv : (Value.slice A5 0 c5).ownBlock <;> simp))
              have hs7 := HQX7.out.size
              clear hq hv hb7
              go_wp2_with (at_builtin; refine app_new (w := w7) rfl (.tmp 77) (.tmp 81) 70 rfl 118 (.agg #[.bool false, .slice none 0 0, .slice none 0 0]) 3 56 Try.underlying70 version_info rfl (by decide) (m := 1) [.bool true, .slice A9 l[0].length c9, .slice none 0 0] HO7.out hs7 rfl rfl rfl (by decide) (by simp [Value.oneCell']) (by unfold maxLen; omega) (by omega) ?_; intro g1 cc1 w8 HO8 HG8 HB8 HL8)
              go_roundw
              case rel =>
                refine ⟨0 + 1, by omega, by go_num, by rw [HKW.out]; rfl, ?_, HB8.out _ HQX7.out⟩
                rw [HKW.out]
                exact HPU.out w7 w8 g1 cc1 ⟨true, l[0], []⟩ _ (below_grown HQR7.out) (ver_mk HV.out (Rp.sl_nil _ _ _)) HG8.out HO8.out HL8.out
              case measure => simp [intOf]; omega
            | succ j =>
              rw [add_succ'] at hcell
              have hjl : j < l.length := by omega
              obtain ⟨ad', u', e', _, hu', hcell'⟩ := Rp.sl_at1 rfl (Rp.below _ H.out HB.out) hjl
              injection e' with e'
              subst e'
              obtain ⟨A3, c3, rfl, hl3, hc3, _⟩ := Rp.sl_open hu'
              have HU3 := Lib.hid hu'
              have hb4 := HT2.out _ (List.getElem_mem hjl)
              clear hu'
              by_cases hrm : (row : Int) < most
              · have hds := delta_small (base := l[j]) hb3
                go_wp2_with fail
                refine (refDelta_fresh _ _ l[j] l[j + 1] wr (Rp.sub _ HU3.out (fun g hg => by omega)) (Rp.sub _ HU.out (fun g hg => by omega))).mono ?_
                rintro e w1 ⟨vd, rfl, hvd, hb1⟩
                rw [deltaOut, if_neg (by omega)] at hvd
                rw [show deltaFault l[j] l[j + 1] = 0 from if_neg (by omega)]
                have HVD := Lib.hid hvd
                have HB1 := Lib.hid hb1
                have HBW1 := Lib.hid (HB.out.trans (hb1.mono HB.out.size))
                obtain ⟨A6, c6, rfl, _⟩ := Rp.sl_open hvd
                have hdl := deltaL_len (base := l[j]) (b := l[j + 1])
                clear hvd hb1
                go_wp2_with fail
                refine (refDeltaBytes_any _ (deltaL l[j] l[j + 1]) w1 (Rp.sub _ HVD.out (fun g hg => hg.2))).mono ?_
                rintro e w2 ⟨vx, rfl, hvx, hb2⟩
                rw [db_zero hb4 hb3]
                rw [db_zero_out hb4 hb3] at hvx
                have HB2 := Lib.hid (ext_trans HB1.out hb2)
                have HBW2 := Lib.hid (HBW1.out.trans (hb2.mono HBW1.out.size))
                have HVD2 := Lib.hid (Rp.keep _ HVD.out (S' := fun b => b < w2.heap.size ∧ (Value.slice A5 (j + 1) c5).ownBlock ≠ some b) (same_below hb2 |>.sub (fun g hg => hg.2)) (fun g hg => ⟨by have := hb2.size; omega, fun e => by have := (HOWN.out g e).2; omega⟩))
                obtain ⟨A7, c7, rfl, _⟩ := Rp.sl_open hvx
                have HO2 := Lib.hid (HO.out.kept (below_grown HB2.out) (by cases hvv : (Value.slice A5 (j + 1) c5).ownBlock <;> simp))
                have hs2 := HBW2.out.size
                clear hvx hb2
                by_cases hlen : (dBytes (deltaL l[j] l[j + 1])).length < l[j + 1].length
                · have HKW := Lib.hid (keptK_delta (most := most) hlt (by rw [HROW.out]; exact hrm) hlen)
                  go_wp2_with (at_builtin; refine app_new (w := w2) rfl (.tmp 70) (.tmp 73) 70 rfl 118 (.agg #[.bool false, .slice none 0 0, .slice none 0 0]) 3 56 Try.underlying70 version_info rfl (by decide) (m := 1) [.bool false, .slice none 0 0, .slice A6 (deltaL l[j] l[j + 1]).length c6] HO2.out hs2 rfl rfl rfl (by decide) (by simp [Value.oneCell']) (by unfold maxLen; omega) (by omega) ?_; intro g1 cc1 w8 HO8 HG8 HB8 HL8)
                  go_roundw
                  case rel =>
                    refine ⟨j + 1 + 1, by omega, by go_num, by rw [HKW.out, HROW.out]; go_num, ?_, HB8.out _ HBW2.out⟩
                    rw [HKW.out]
                    exact HPU.out w2 w8 g1 cc1 ⟨false, [], deltaL l[j] l[j + 1]⟩ _ (below_grown HB2.out) (ver_mk (Rp.sl_nil _ _ _) HVD2.out) HG8.out HO8.out HL8.out
                  case measure => simp [intOf]; omega
                · have HKW := Lib.hid (keptK_whole (most := most) hlt (fun h => hlen (by
                    have := h.2.2
                    rw [Nat.add_sub_cancel, List.getD_eq_getElem?_getD, List.getElem?_eq_getElem hjl] at this
                    exact this)))
                  go_wp2_with fail
                  refine (clone_any _ l[(j + 1)] w2 (Rp.keep _ HU.out (S' := fun g => g < w2.heap.size) (same_both HB.out HBW2.out) (fun g hg => by have := HBW2.out.size; omega)) (by omega)).mono ?_
                  intro e w7 hq
                  obtain ⟨vb, rfl, hv, hb7⟩ := clone_read hq
                  obtain ⟨A9, c9, rfl, _⟩ := Rp.sl_open hv
                  have HV := Lib.hid (Rp.sub _ hv (T := fun b => b < w7.heap.size ∧ (Value.slice A5 (j + 1) c5).ownBlock ≠ some b) (fun b hb => ⟨hb.2, fun e => by have := (HOWN.out b e).2; have := HB2.out.size; omega⟩))
                  have HQR7 := Lib.hid (ext_trans HB2.out hb7)
                  have HQX7 := Lib.hid (HBW2.out.trans (hb7.mono HBW2.out.size))
                  have HO7 := Lib.hid (HO.out.kept (below_grown HQR7.out) (by cases hvv : (Value.slice A5 (j + 1) c5).ownBlock <;> simp))
                  have hs7 := HQX7.out.size
                  clear hq hv hb7
                  go_wp2_with (at_builtin; refine app_new (w := w7) rfl (.tmp 77) (.tmp 81) 70 rfl 118 (.agg #[.bool false, .slice none 0 0, .slice none 0 0]) 3 56 Try.underlying70 version_info rfl (by decide) (m := 1) [.bool true, .slice A9 l[(j + 1)].length c9, .slice none 0 0] HO7.out hs7 rfl rfl rfl (by decide) (by simp [Value.oneCell']) (by unfold maxLen; omega) (by omega) ?_; intro g1 cc1 w8 HO8 HG8 HB8 HL8)
                  go_roundw
                  case rel =>
                    refine ⟨(j + 1) + 1, by omega, by go_num, by rw [HKW.out]; rfl, ?_, HB8.out _ HQX7.out⟩
                    rw [HKW.out]
                    exact HPU.out w7 w8 g1 cc1 ⟨true, l[(j + 1)], []⟩ _ (below_grown HQR7.out) (ver_mk HV.out (Rp.sl_nil _ _ _)) HG8.out HO8.out HL8.out
                  case measure => simp [intOf]; omega
              · have HKW := Lib.hid (keptK_whole (most := most) hlt (fun h => hrm (by rw [← HROW.out]; exact h.2.1)))
                go_wp2_with fail
                refine (clone_any _ l[(j + 1)] wr (Rp.keep _ HU.out (S' := fun g => g < wr.heap.size) (same_both HB.out HB.out) (fun g hg => by have := HB.out.size; omega)) (by omega)).mono ?_
                intro e w7 hq
                obtain ⟨vb, rfl, hv, hb7⟩ := clone_read hq
                obtain ⟨A9, c9, rfl, _⟩ := Rp.sl_open hv
                have HV := Lib.hid (Rp.sub _ hv (T := fun b => b < w7.heap.size ∧ (Value.slice A5 (j + 1) c5).ownBlock ≠ some b) (fun b hb => ⟨hb.2, fun e => by have := (HOWN.out b e).2; have := HRF.out.size; omega⟩))
                have HQR7 := Lib.hid (ext_trans HRF.out hb7)
                have HQX7 := Lib.hid (HB.out.trans (hb7.mono HB.out.size))
                have HO7 := Lib.hid (HO.out.kept (below_grown HQR7.out) (by cases hvv : (Value.slice A5 (j + 1) c5).ownBlock <;> simp))
                have hs7 := HQX7.out.size
                clear hq hv hb7
                go_wp2_with (at_builtin; refine app_new (w := w7) rfl (.tmp 77) (.tmp 81) 70 rfl 118 (.agg #[.bool false, .slice none 0 0, .slice none 0 0]) 3 56 Try.underlying70 version_info rfl (by decide) (m := 1) [.bool true, .slice A9 l[(j + 1)].length c9, .slice none 0 0] HO7.out hs7 rfl rfl rfl (by decide) (by simp [Value.oneCell']) (by unfold maxLen; omega) (by omega) ?_; intro g1 cc1 w8 HO8 HG8 HB8 HL8)
                go_roundw
                case rel =>
                  refine ⟨(j + 1) + 1, by omega, by go_num, by rw [HKW.out]; rfl, ?_, HB8.out _ HQX7.out⟩
                  rw [HKW.out]
                  exact HPU.out w7 w8 g1 cc1 ⟨true, l[(j + 1)], []⟩ _ (below_grown HQR7.out) (ver_mk HV.out (Rp.sl_nil _ _ _)) HG8.out HO8.out HL8.out
                case measure => simp [intOf]; omega
          · obtain rfl : k = l.length := by omega
            obtain ⟨A5, c5, rfl, _⟩ := HR.out.form
            have HP := Lib.hid (keptPost_good HF.out (HR.out.read (by decide)) HB.out)
            go_wp2
            go_ret2
            exact HP.out
end Go.Proofs.Ytofahmdjhpbecaa
