/-
  'Room' of the reference; the law 'RightsCountsOfShownMatchSpec' walked: it returns true.
-/
import Derived.Test.YtgbpnghgcffkbaaGreatDoorHMost
import Derived.Test.YtgbpnghgcffkbaaGreatDoorRoom
import Derived.Test.YtgbpnghgcffkbaaGreatDoorAwake10
namespace Go.Proofs.YtgbpnghgcffkbaaGreatDoor
open Go.RowKit
set_option linter.unusedVariables false
set_option linter.unusedSimpArgs false

set_option maxRecDepth 100000 in
set_option maxHeartbeats 4000000 in
theorem hRoom_any (v : Value) (l : List Shn) (who : List UInt8) (lim win at_ : Int) (w : World) (h1 : (Rp.sl shnRp).ok w (· < w.heap.size) [v] l) (hw : who.length ≤ 9223372036854775807) :
    Calls Tryz.prog 22 #[v, .string (bstr who), .int .i64 lim, .int .i64 win, .int .i64 at_] w fun e w' => e = .returned (.tuple #[.int .i64 (roomTop l who lim win at_).1, .int .i64 (roomTop l who lim win at_).2]) ∧ Below w.heap.size w w' := by
  have HR : Hid (roomTop l who lim win at_ = if shownFault l ≠ 0 then (0, shownFault l) else if isNm who = false then (0, 5) else if withinB lim 0 3000 = false ∨ withinB win 1 1000000000 = false ∨ withinB at_ 0 253402300799 = false then (0, 1) else (max (lim - cntRoom who win at_ l) 0, 0)) := Lib.hid rfl
  have HFL : Hid (shownFault l = 0 → l.length ≤ 3000) := Lib.hid (fun h => by
    unfold shownFault at h
    split at h
    · cases h
    · omega)
  have H1 := Lib.hid h1
  go_enter Tryz.func22, Tryz.ntmps22
  go_wp2_with fail
  refine (hCheckShown_any v l w h1).mono ?_
  rintro e w1 ⟨rfl, hb⟩
  have HB1 := Lib.hid hb
  have H1b := Lib.hid (Rp.ext _ h1 hb)
  clear hb h1 H1
  by_cases hsf : shownFault l = 0
  case neg =>
    have HF : Hid (roomTop l who lim win at_ = (0, shownFault l)) := Lib.hid (HR.out.trans (if_pos hsf))
    have hb : (shownFault l != 0) = true := by simpa using hsf
    clear hsf HR
    go_wp2_with fail
    go_ret2
    exact ⟨by rw [HF.out]; rfl, HB1.out⟩
  have hln := HFL.out hsf
  have HR1 := Lib.hid (HR.out.trans (if_neg (fun e => e hsf)))
  rw [hsf]
  clear hsf HR HFL
  go_wp2_with fail
  refine (hNameB_any who _ hw).mono ?_
  rintro e w2 ⟨rfl, hb⟩
  have HB2 := Lib.hid (HB1.out.trans (hb.mono HB1.out.size))
  have H2 := Lib.hid (Rp.ext _ H1b.out hb)
  clear hb H1b HB1
  cases q1 : isNm who with
  | false =>
    have HF : Hid (roomTop l who lim win at_ = (0, 5)) := Lib.hid (HR1.out.trans (if_pos q1))
    clear q1 HR1
    go_wp2_with fail
    go_ret2
    exact ⟨by rw [HF.out]; rfl, HB2.out⟩
  | true =>
  have HR2 := Lib.hid (HR1.out.trans (if_neg (by rw [q1]; decide)))
  clear q1 HR1
  go_wp2_with fail
  refine (hwithin_any lim 0 3000 _).mono ?_
  rintro e w3 ⟨rfl, rfl⟩
  cases q1 : withinB lim 0 3000 with
  | false =>
    have HF : Hid (roomTop l who lim win at_ = (0, 1)) := Lib.hid (HR2.out.trans (if_pos (.inl q1)))
    clear q1 HR2
    go_wp2_with fail
    go_ret2
    exact ⟨by rw [HF.out]; rfl, HB2.out⟩
  | true =>
  go_wp2_with fail
  refine (hwithin_any win 1 1000000000 _).mono ?_
  rintro e w4 ⟨rfl, rfl⟩
  cases q2 : withinB win 1 1000000000 with
  | false =>
    have HF : Hid (roomTop l who lim win at_ = (0, 1)) := Lib.hid (HR2.out.trans (if_pos (.inr (.inl q2))))
    clear q1 q2 HR2
    go_wp2_with fail
    go_ret2
    exact ⟨by rw [HF.out]; rfl, HB2.out⟩
  | true =>
  go_wp2_with fail
  refine (hwithin_any at_ 0 253402300799 _).mono ?_
  rintro e w5 ⟨rfl, rfl⟩
  cases q3 : withinB at_ 0 253402300799 with
  | false =>
    have HF : Hid (roomTop l who lim win at_ = (0, 1)) := Lib.hid (HR2.out.trans (if_pos (.inr (.inr q3))))
    clear q1 q2 q3 HR2
    go_wp2_with fail
    go_ret2
    exact ⟨by rw [HF.out]; rfl, HB2.out⟩
  | true =>
  have HF : Hid (roomTop l who lim win at_ = (max (lim - cntRoom who win at_ l) 0, 0)) := Lib.hid (HR2.out.trans (if_neg (by rw [q1, q2, q3]; decide)))
  have b1 : 0 ≤ lim ∧ lim ≤ 3000 := of_decide_eq_true q1
  have b2 : 1 ≤ win ∧ win ≤ 1000000000 := of_decide_eq_true q2
  have b3 : 0 ≤ at_ ∧ at_ ≤ 253402300799 := of_decide_eq_true q3
  obtain ⟨b1, b1'⟩ := b1
  obtain ⟨b2, b2'⟩ := b2
  obtain ⟨b3, b3'⟩ := b3
  clear q1 q2 q3 HR2
  obtain ⟨A, c, rfl, hl, hc, _⟩ := Rp.sl_open H2.out
  unfold maxLen at hc
  go_wp2_with fail
  go_loopw [13, 40] (fun vn vi wr => ∃ (k : Nat) (n : Int), k ≤ l.length ∧ vi = .int .i64 k ∧ vn = .int .i64 n ∧ n ≤ 3000 ∧ -3000 ≤ n ∧ Hid (n = lim - cntRoom who win at_ (l.take k)) ∧ Hid (Below w.heap.size w wr) ∧ Hid (Below w5.heap.size w5 wr)) (fun _ vi _ => l.length - (intOf vi).toNat)
  case atStart => exact ⟨0, lim, by omega, rfl, rfl, by omega, by omega, by simp [cntRoom, Hid], HB2, Below.refl _ _⟩
  case round =>
    obtain ⟨k, n, hk, rfl, rfl, hn1, hn2, HN, HB, HB5⟩ := hrel
    by_cases hlt : k < l.length
    · obtain ⟨ad, cc, e1, hadb, c0, c1, c2, c3, c4, hz⟩ := shn_at (Rp.below _ H2.out HB5.out) hlt
      injection e1 with e1 _ e2
      subst e1 e2
      have HY : Hid (inRoom who win at_ l[k] = true → n - 1 = lim - cntRoom who win at_ (l.take (k + 1))) := Lib.hid (fun h => by rw [cntRoom_yes hlt h, HN.out]; push_cast; omega)
      have HX : Hid (inRoom who win at_ l[k] = false → n = lim - cntRoom who win at_ (l.take (k + 1))) := Lib.hid (fun h => by rw [cntRoom_no hlt h, HN.out])
      have hlow : lim - cntRoom who win at_ (l.take (k + 1)) ≥ -3000 := by
        have := cntRoom_le who win at_ (l.take (k + 1))
        rw [List.length_take] at this
        omega
      have HLOW := Lib.hid hlow
      have HI : Hid (inRoom who win at_ l[k] = (decide (l[k].who = who) && (decide (at_ - win < l[k].at_) && decide (l[k].at_ ≤ at_)))) := Lib.hid rfl
      clear hz hlow
      generalize hx : l[k] = x at *
      clear hx
      have HB4 := Lib.hid (HB.out.alloc HB.out.size (.cells #[.int .i64 x.at_, .string (bstr x.who), .bool x.house, .string (bstr x.key), .int .i64 x.time] 93))
      have HB6 := Lib.hid (HB5.out.alloc HB5.out.size (.cells #[.int .i64 x.at_, .string (bstr x.who), .bool x.house, .string (bstr x.key), .int .i64 x.time] 93))
      have hkb := Blk.new wr 93 [.int .i64 x.at_, .string (bstr x.who), .bool x.house, .string (bstr x.key), .int .i64 x.time]
      have d0 : _ = some (Value.int .i64 x.at_) := hkb.cell 0
      have d1 : _ = some (Value.string (bstr x.who)) := hkb.cell 1
      have d2 : _ = some (Value.bool x.house) := hkb.cell 2
      have d3 : _ = some (Value.string (bstr x.key)) := hkb.cell 3
      have d4 : _ = some (Value.int .i64 x.time) := hkb.cell 4
      clear hkb
      by_cases w1 : x.who = who
      · have e1 : ((bstr x.who).toList == (bstr who).toList) = true := str_beq (by rw [w1])
        by_cases w2 : at_ - win < x.at_
        · by_cases w3 : x.at_ ≤ at_
          · have HN2 := Lib.hid (HY.out (by rw [HI.out, decide_eq_true w1, decide_eq_true w2, decide_eq_true w3]; rfl))
            have hn3 : n - 1 ≥ -3000 := by rw [HN2.out]; exact HLOW.out
            clear w1 HY HX HI
            go_wp2_with fail
            go_roundw
            case rel => exact ⟨k + 1, n - 1, by omega, by go_num, rfl, by omega, by omega, HN2, HB4, HB6⟩
            case measure => simp [intOf]; omega
          · have HN2 := Lib.hid (HX.out (by rw [HI.out, decide_eq_false w3, Bool.and_false, Bool.and_false]))
            clear w1 HY HX HI
            go_wp2_with fail
            go_roundw
            case rel => exact ⟨k + 1, n, by omega, by go_num, rfl, by omega, by omega, HN2, HB4, HB6⟩
            case measure => simp [intOf]; omega
        · have HN2 := Lib.hid (HX.out (by rw [HI.out, decide_eq_false w2, Bool.false_and, Bool.and_false]))
          clear w1 HY HX HI
          go_wp2_with fail
          go_roundw
          case rel => exact ⟨k + 1, n, by omega, by go_num, rfl, by omega, by omega, HN2, HB4, HB6⟩
          case measure => simp [intOf]; omega
      · have e1 : ((bstr x.who).toList == (bstr who).toList) = false := str_bne (fun e => w1 (bstr_inj e))
        have HN2 := Lib.hid (HX.out (by rw [HI.out, decide_eq_false w1, Bool.false_and]))
        clear w1 HY HX HI
        go_wp2_with fail
        go_roundw
        case rel => exact ⟨k + 1, n, by omega, by go_num, rfl, by omega, by omega, HN2, HB4, HB6⟩
        case measure => simp [intOf]; omega
    · obtain rfl : k = l.length := by omega
      rw [List.take_length] at HN
      go_wp2_with fail
      go_ret2
      exact ⟨by rw [HF.out, ← HN.out]; rfl, HB.out⟩
set_option maxRecDepth 100000 in
set_option maxHeartbeats 4000000 in
theorem cntLaw_any (v0 : Value) (s : List Shn) (v1 : Value) (fr : Int) (v2 : Value) (to : Int) (v3 : Value) (who0 : ByteArray) (v4 : Value) (lim : Int) (v5 : Value) (win : Int) (v6 : Value) (at_ : Int) (w : World) (h0 : (Rp.sl shnRp).ok w (· < w.heap.size) [v0] s) (f0 : (Rp.sl shnRp).fits s) (h1 : (Rp.int .i64).ok w (· < w.heap.size) [v1] fr) (f1 : (Rp.int .i64).fits fr) (h2 : (Rp.int .i64).ok w (· < w.heap.size) [v2] to) (f2 : (Rp.int .i64).fits to) (h3 : Rp.str.ok w (· < w.heap.size) [v3] who0) (f3 : Rp.str.fits who0) (h4 : (Rp.int .i64).ok w (· < w.heap.size) [v4] lim) (f4 : (Rp.int .i64).fits lim) (h5 : (Rp.int .i64).ok w (· < w.heap.size) [v5] win) (f5 : (Rp.int .i64).fits win) (h6 : (Rp.int .i64).ok w (· < w.heap.size) [v6] at_) (f6 : (Rp.int .i64).fits at_) :
    Calls Tryz.prog 6 #[v0, v1, v2, v3, v4, v5, v6] w fun e w' => e = .returned (.bool true) ∧ Below w.heap.size w w' := by
  obtain ⟨e1, hw_fr⟩ := h1
  injection e1 with e1
  subst e1
  clear f1
  obtain ⟨e2, hw_to⟩ := h2
  injection e2 with e2
  subst e2
  clear f2
  obtain ⟨e3, hw3⟩ := h3
  injection e3 with e3
  subst e3
  obtain ⟨who, rfl⟩ : ∃ who, who0 = bstr who := ⟨who0.data.toList, (bstr_eq who0).symm⟩
  have hl_who : who.length ≤ 9223372036854775807 := hw3
  clear hw3 f3
  obtain ⟨e4, hw_lim⟩ := h4
  injection e4 with e4
  subst e4
  clear f4
  obtain ⟨e5, hw_win⟩ := h5
  injection e5 with e5
  subst e5
  clear f5
  obtain ⟨e6, hw_at_⟩ := h6
  injection e6 with e6
  subst e6
  clear f6
  have H0 := Lib.hid h0
  clear h0 f0
  go_enter Tryz.func6, Tryz.ntmps6
  go_wp2_with fail
  refine (most_any _ s fr to w H0.out).mono ?_
  rintro e w1 ⟨vx, xs, rfl, hx, hx1, hx2, hb⟩
  have HB1 := Lib.hid hb
  have HX := Lib.hid hx
  have HX1 := Lib.hid hx1
  have HX2 := Lib.hid hx2
  clear hb hx hx1 hx2
  go_wp2_with fail
  refine (hMost_any _ s fr to w1 (Rp.ext _ H0.out HB1.out)).mono ?_
  rintro e w2 ⟨vy, ys, rfl, hy, hy1, hy2, hb⟩
  have HXY : Hid (xs = ys) := Lib.hid (by
    by_cases h : mostF s fr to = 0
    · exact tal_uniq (HX1.out h) (hy1 h)
    · rw [HX2.out h, hy2 h])
  have HB2 := Lib.hid (HB1.out.trans (hb.mono HB1.out.size))
  have HX2' := Lib.hid (Rp.ext _ HX.out hb)
  have HY2 : Hid ((Rp.sl talRp).ok w2 (· < w2.heap.size) [vy] xs) := Lib.hid (by rw [HXY.out]; exact hy)
  clear hb hy hy1 hy2 HX HX1 HX2 HB1 HXY
  generalize mostF s fr to = f at *
  have hff : (f != f) = false := by simp
  go_wp2_with fail
  refine (eqTal_is vx vy xs w2 _ _ HX2'.out HY2.out).mono ?_
  rintro e w3 ⟨rfl, n, rfl⟩
  have HB3 := Lib.hid (below_drewN HB2.out n)
  clear HB2 HX2' HY2
  generalize w2.drewN n = w3 at *
  go_wp2_with fail
  clear hff
  refine (room_any _ s who lim win at_ w3 (Rp.ext _ H0.out HB3.out) hl_who).mono ?_
  rintro e w4 ⟨rfl, hb⟩
  have HB4 := Lib.hid (HB3.out.trans (hb.mono HB3.out.size))
  clear hb HB3
  go_wp2_with fail
  refine (hRoom_any _ s who lim win at_ w4 (Rp.ext _ H0.out HB4.out) hl_who).mono ?_
  rintro e w5 ⟨rfl, hb⟩
  have HB5 := Lib.hid (HB4.out.trans (hb.mono HB4.out.size))
  clear hb HB4
  generalize roomTop s who lim win at_ = rt at *
  obtain ⟨r1, r2⟩ := rt
  try dsimp only
  go_wp2_with fail
  refine (awake_any _).mono ?_
  rintro e wz ⟨rfl, hb⟩
  have HBZ := Lib.hid (HB5.out.trans (hb.mono HB5.out.size))
  clear hb
  go_wp2_with fail
  go_ret
  exact ⟨rfl, HBZ.out⟩
end Go.Proofs.YtgbpnghgcffkbaaGreatDoor
