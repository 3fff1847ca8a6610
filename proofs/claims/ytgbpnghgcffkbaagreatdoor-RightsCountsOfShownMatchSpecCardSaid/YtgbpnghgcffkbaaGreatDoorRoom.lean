/-
  'Room' of package rights; slices.Clone of what was shown.
-/
import Derived.Test.YtgbpnghgcffkbaaGreatDoorShown
import Derived.Test.YtgbpnghgcffkbaaGreatDoorWithin
namespace Go.Proofs.YtgbpnghgcffkbaaGreatDoor
open Go.RowKit
set_option linter.unusedVariables false
set_option linter.unusedSimpArgs false

theorem shn_info : (Tryz.prog.info? 93).map (fun i => (i.zero, i.size, i.bytes)) = some (some (.agg #[.int .i64 0, .string ⟨#[]⟩, .bool false, .string ⟨#[]⟩, .int .i64 0]), 5, 56) := by kernel_rfl
theorem shn_flat (l : List Shn) (k : Nat) (h : k < l.length) : ((l.flatMap shnCells).drop (k * 5)).take 5 = shnCells l[k] := flat_at (f := shnCells) (sz := 5) (fun _ => rfl) l k h
theorem shn_flat_len (l : List Shn) : (l.flatMap shnCells).length = l.length * 5 := flat_len (f := shnCells) (sz := 5) (fun _ => rfl) l
theorem shn_flat_at (l : List Shn) (k j : Nat) (h : k < l.length) (hj : j < 5) : (l.flatMap shnCells)[k * 5 + j]? = (shnCells l[k])[j]? := by
  rw [← shn_flat l k h, List.getElem?_take_of_lt hj, List.getElem?_drop]
def inRoom (who : List UInt8) (win at_ : Int) (x : Shn) : Bool := decide (x.who = who) && (decide (at_ - win < x.at_) && decide (x.at_ ≤ at_))
def cntRoom (who : List UInt8) (win at_ : Int) (l : List Shn) : Nat := (l.filter (inRoom who win at_)).length
def roomTop (s : List Shn) (who : List UInt8) (lim win at_ : Int) : Int × Int :=
  if shownFault s ≠ 0 then (0, shownFault s) else if isNm who = false then (0, 5) else if withinB lim 0 3000 = false ∨ withinB win 1 1000000000 = false ∨ withinB at_ 0 253402300799 = false then (0, 1) else (max (lim - cntRoom who win at_ s) 0, 0)
theorem cntRoom_yes {who : List UInt8} {win at_ : Int} {l : List Shn} {k : Nat} (h : k < l.length) (hi : inRoom who win at_ l[k] = true) : cntRoom who win at_ (l.take (k + 1)) = cntRoom who win at_ (l.take k) + 1 := by
  unfold cntRoom
  rw [List.take_succ_eq_append_getElem h, List.filter_append, List.length_append]
  simp [hi]
theorem cntRoom_no {who : List UInt8} {win at_ : Int} {l : List Shn} {k : Nat} (h : k < l.length) (hi : inRoom who win at_ l[k] = false) : cntRoom who win at_ (l.take (k + 1)) = cntRoom who win at_ (l.take k) := by
  unfold cntRoom
  rw [List.take_succ_eq_append_getElem h, List.filter_append, List.length_append]
  simp [hi]
theorem cntRoom_le (who : List UInt8) (win at_ : Int) (l : List Shn) : cntRoom who win at_ l ≤ l.length := List.length_filter_le _ _
set_option maxRecDepth 100000 in
set_option maxHeartbeats 4000000 in
theorem room_any (v : Value) (l : List Shn) (who : List UInt8) (lim win at_ : Int) (w : World) (h1 : (Rp.sl shnRp).ok w (· < w.heap.size) [v] l) (hw : who.length ≤ 9223372036854775807) :
    Calls Tryz.prog 21 #[v, .string (bstr who), .int .i64 lim, .int .i64 win, .int .i64 at_] w fun e w' => e = .returned (.tuple #[.int .i64 (roomTop l who lim win at_).1, .int .i64 (roomTop l who lim win at_).2]) ∧ Below w.heap.size w w' := by
  have HR : Hid (roomTop l who lim win at_ = if shownFault l ≠ 0 then (0, shownFault l) else if isNm who = false then (0, 5) else if withinB lim 0 3000 = false ∨ withinB win 1 1000000000 = false ∨ withinB at_ 0 253402300799 = false then (0, 1) else (max (lim - cntRoom who win at_ l) 0, 0)) := Lib.hid rfl
  have HFL : Hid (shownFault l = 0 → l.length ≤ 3000) := Lib.hid (fun h => by
    unfold shownFault at h
    split at h
    · cases h
    · omega)
  have H1 := Lib.hid h1
  go_enter Tryz.func21, Tryz.ntmps21
  go_wp2_with fail
  refine (checkShown_any v l w h1).mono ?_
  rintro e w1 ⟨rfl, hb⟩
  have HB1 := Lib.hid hb
  have H1b := Lib.hid (Rp.ext _ h1 hb)
  clear hb h1 H1
  by_cases hsf : shownFault l = 0
  case neg =>
    have HF : Hid (roomTop l who lim win at_ = (0, shownFault l)) := Lib.hid (HR.out.trans (if_pos hsf))
    have hb : (shownFault l != 0) = true := by simpa using hsf
    clear hsf HR
    go_wp2_with fail
    go_ret2
    exact ⟨by rw [HF.out]; rfl, HB1.out⟩
  have hln := HFL.out hsf
  have HR1 := Lib.hid (HR.out.trans (if_neg (fun e => e hsf)))
  rw [hsf]
  clear hsf HR HFL
  go_wp2_with fail
  refine (isName_any who _ hw).mono ?_
  rintro e w2 ⟨rfl, hb⟩
  have HB2 := Lib.hid (HB1.out.trans (hb.mono HB1.out.size))
  have H2 := Lib.hid (Rp.ext _ H1b.out hb)
  clear hb H1b HB1
  cases q1 : isNm who with
  | false =>
    have HF : Hid (roomTop l who lim win at_ = (0, 5)) := Lib.hid (HR1.out.trans (if_pos q1))
    clear q1 HR1
    go_wp2_with fail
    go_ret2
    exact ⟨by rw [HF.out]; rfl, HB2.out⟩
  | true =>
  have HR2 := Lib.hid (HR1.out.trans (if_neg (by rw [q1]; decide)))
  clear q1 HR1
  go_wp2_with fail
  refine (gwithin_any lim 0 3000 _).mono ?_
  rintro e w3 ⟨rfl, rfl⟩
  cases q1 : withinB lim 0 3000 with
  | false =>
    have HF : Hid (roomTop l who lim win at_ = (0, 1)) := Lib.hid (HR2.out.trans (if_pos (.inl q1)))
    clear q1 HR2
    go_wp2_with fail
    go_ret2
    exact ⟨by rw [HF.out]; rfl, HB2.out⟩
  | true =>
  go_wp2_with fail
  refine (gwithin_any win 1 1000000000 _).mono ?_
  rintro e w4 ⟨rfl, rfl⟩
  cases q2 : withinB win 1 1000000000 with
  | false =>
    have HF : Hid (roomTop l who lim win at_ = (0, 1)) := Lib.hid (HR2.out.trans (if_pos (.inr (.inl q2))))
    clear q1 q2 HR2
    go_wp2_with fail
    go_ret2
    exact ⟨by rw [HF.out]; rfl, HB2.out⟩
  | true =>
  go_wp2_with fail
  refine (moment_any at_ _).mono ?_
  rintro e w5 ⟨rfl, rfl⟩
  cases q3 : withinB at_ 0 253402300799 with
  | false =>
    have HF : Hid (roomTop l who lim win at_ = (0, 1)) := Lib.hid (HR2.out.trans (if_pos (.inr (.inr q3))))
    clear q1 q2 q3 HR2
    go_wp2_with fail
    go_ret2
    exact ⟨by rw [HF.out]; rfl, HB2.out⟩
  | true =>
  have HF : Hid (roomTop l who lim win at_ = (max (lim - cntRoom who win at_ l) 0, 0)) := Lib.hid (HR2.out.trans (if_neg (by rw [q1, q2, q3]; decide)))
  have b1 : 0 ≤ lim ∧ lim ≤ 3000 := of_decide_eq_true q1
  have b2 : 1 ≤ win ∧ win ≤ 1000000000 := of_decide_eq_true q2
  have b3 : 0 ≤ at_ ∧ at_ ≤ 253402300799 := of_decide_eq_true q3
  obtain ⟨b1, b1'⟩ := b1
  obtain ⟨b2, b2'⟩ := b2
  obtain ⟨b3, b3'⟩ := b3
  clear q1 q2 q3 HR2
  obtain ⟨A, c, rfl, hl, hc, _⟩ := Rp.sl_open H2.out
  unfold maxLen at hc
  go_wp2_with fail
  go_loopw [13, 40] (fun vn vi wr => ∃ (k : Nat) (n : Int), k ≤ l.length ∧ vi = .int .i64 k ∧ vn = .int .i64 n ∧ n ≤ 3000 ∧ -3000 ≤ n ∧ Hid (n = lim - cntRoom who win at_ (l.take k)) ∧ Hid (Below w.heap.size w wr) ∧ Hid (Below w5.heap.size w5 wr)) (fun _ vi _ => l.length - (intOf vi).toNat)
  case atStart => exact ⟨0, lim, by omega, rfl, rfl, by omega, by omega, by simp [cntRoom, Hid], HB2, Below.refl _ _⟩
  case round =>
    obtain ⟨k, n, hk, rfl, rfl, hn1, hn2, HN, HB, HB5⟩ := hrel
    by_cases hlt : k < l.length
    · obtain ⟨ad, cc, e1, hadb, c0, c1, c2, c3, c4, hz⟩ := shn_at (Rp.below _ H2.out HB5.out) hlt
      injection e1 with e1 _ e2
      subst e1 e2
      have HY : Hid (inRoom who win at_ l[k] = true → n - 1 = lim - cntRoom who win at_ (l.take (k + 1))) := Lib.hid (fun h => by rw [cntRoom_yes hlt h, HN.out]; push_cast; omega)
      have HX : Hid (inRoom who win at_ l[k] = false → n = lim - cntRoom who win at_ (l.take (k + 1))) := Lib.hid (fun h => by rw [cntRoom_no hlt h, HN.out])
      have hlow : lim - cntRoom who win at_ (l.take (k + 1)) ≥ -3000 := by
        have := cntRoom_le who win at_ (l.take (k + 1))
        rw [List.length_take] at this
        omega
      have HLOW := Lib.hid hlow
      have HI : Hid (inRoom who win at_ l[k] = (decide (l[k].who = who) && (decide (at_ - win < l[k].at_) && decide (l[k].at_ ≤ at_)))) := Lib.hid rfl
      clear hz hlow
      generalize hx : l[k] = x at *
      clear hx
      have HB4 := Lib.hid (HB.out.alloc HB.out.size (.cells #[.int .i64 x.at_, .string (bstr x.who), .bool x.house, .string (bstr x.key), .int .i64 x.time] 93))
      have HB6 := Lib.hid (HB5.out.alloc HB5.out.size (.cells #[.int .i64 x.at_, .string (bstr x.who), .bool x.house, .string (bstr x.key), .int .i64 x.time] 93))
      have hkb := Blk.new wr 93 [.int .i64 x.at_, .string (bstr x.who), .bool x.house, .string (bstr x.key), .int .i64 x.time]
      have d0 : _ = some (Value.int .i64 x.at_) := hkb.cell 0
      have d1 : _ = some (Value.string (bstr x.who)) := hkb.cell 1
      have d2 : _ = some (Value.bool x.house) := hkb.cell 2
      have d3 : _ = some (Value.string (bstr x.key)) := hkb.cell 3
      have d4 : _ = some (Value.int .i64 x.time) := hkb.cell 4
      clear hkb
      by_cases w1 : x.who = who
      · have e1 : ((bstr x.who).toList == (bstr who).toList) = true := str_beq (by rw [w1])
        by_cases w2 : at_ - win < x.at_
        · by_cases w3 : x.at_ ≤ at_
          · have HN2 := Lib.hid (HY.out (by rw [HI.out, decide_eq_true w1, decide_eq_true w2, decide_eq_true w3]; rfl))
            have hn3 : n - 1 ≥ -3000 := by rw [HN2.out]; exact HLOW.out
            clear w1 HY HX HI
            go_wp2_with fail
            go_roundw
            case rel => exact ⟨k + 1, n - 1, by omega, by go_num, rfl, by omega, by omega, HN2, HB4, HB6⟩
            case measure => simp [intOf]; omega
          · have HN2 := Lib.hid (HX.out (by rw [HI.out, decide_eq_false w3, Bool.and_false, Bool.and_false]))
            clear w1 HY HX HI
            go_wp2_with fail
            go_roundw
            case rel => exact ⟨k + 1, n, by omega, by go_num, rfl, by omega, by omega, HN2, HB4, HB6⟩
            case measure => simp [intOf]; omega
        · have HN2 := Lib.hid (HX.out (by rw [HI.out, decide_eq_false w2, Bool.false_and, Bool.and_false]))
          clear w1 HY HX HI
          go_wp2_with fail
          go_roundw
          case rel => exact ⟨k + 1, n, by omega, by go_num, rfl, by omega, by omega, HN2, HB4, HB6⟩
          case measure => simp [intOf]; omega
      · have e1 : ((bstr x.who).toList == (bstr who).toList) = false := str_bne (fun e => w1 (bstr_inj e))
        have HN2 := Lib.hid (HX.out (by rw [HI.out, decide_eq_false w1, Bool.false_and]))
        clear w1 HY HX HI
        go_wp2_with fail
        go_roundw
        case rel => exact ⟨k + 1, n, by omega, by go_num, rfl, by omega, by omega, HN2, HB4, HB6⟩
        case measure => simp [intOf]; omega
    · obtain rfl : k = l.length := by omega
      rw [List.take_length] at HN
      go_wp2_with fail
      go_ret2
      exact ⟨by rw [HF.out, ← HN.out]; rfl, HB.out⟩
end Go.Proofs.YtgbpnghgcffkbaaGreatDoor
