/-
  'Takedowns' of the reference of chapter 10.
-/
import Derived.Test.YtgbpnghgcffkbaaDoorHState
import Derived.Test.YtgbpnghgcffkbaaDoorTd
namespace Go.Proofs.YtgbpnghgcffkbaaDoor
open Go.RowKit
set_option linter.unusedVariables false
set_option linter.unusedSimpArgs false

theorem hTdAt_next {l : List App} {hold : Int} {k : Nat} (h : k < l.length) : hTdAt l hold (k + 1) = hTdAt l hold k ++ hTdOne l hold l[k] := by
  rw [hTdAt, getD_at _ _ h]
theorem stp_asked {l : List App} {k : Nat} (h : k < l.length) (hk : l[k].kind = 1) : (stpAt l l[k].id l.length).2 = true := by
  refine stp_found (k := k + 1) l.length (by omega) ?_
  have hg := getD_at l default h
  rw [stpAt, stpOne, if_neg (by rw [hg]; exact fun e => e rfl), if_pos (by rw [hg]; exact hk)]
set_option maxRecDepth 100000 in
set_option maxHeartbeats 8000000 in
theorem hTakedowns_any (v : Value) (l : List App) (hold : Int) (w : World) (h0 : (Rp.sl appRp).ok w (· < w.heap.size) [v] l) :
    Calls Tryd.prog 12 #[v, .int .i64 hold] w (TdPost l hold w) := by
  obtain ⟨A, cc, rfl, hl, hc, hnil⟩ := Rp.sl_open h0
  unfold maxLen at hc
  have H0 := Lib.hid h0
  clear h0
  go_enter Tryd.func12, Tryd.ntmps12
  go_wp2_with fail
  refine (hApps_any _ l w H0.out).mono ?_
  rintro e w1 ⟨rfl, hb⟩
  rw [← apps_same]
  have HB1 := Lib.hid hb
  clear hb
  by_cases ha : appsFault l = 0
  case neg =>
    have HF : Hid (tdF l hold = appsFault l) := Lib.hid (tdF_1 ha)
    have HN := Lib.hid ha
    have hn : (appsFault l != 0) = true := by simpa using ha
    clear ha
    generalize appsFault l = ff at *
    go_wp2_with fail
    go_ret2
    exact td_bad HF.out HN.out HB1.out
  have HA := Lib.hid ha
  have hl5 := (apps_all ha).1
  rw [ha]
  clear ha
  go_wp2_with fail
  refine (hwithin_any hold 0 1000000000 w1).mono ?_
  rintro e w1' ⟨rfl, hw⟩
  subst hw
  cases q3 : withinB hold 0 1000000000 with
  | false =>
    have HF : Hid (tdF l hold = 1) := Lib.hid (tdF_2 HA.out q3)
    clear q3
    go_wp2_with fail
    go_ret2
    exact td_bad HF.out (by decide) HB1.out
  | true =>
  have HHO : Hid (0 ≤ hold ∧ hold ≤ 1000000000) := Lib.hid (of_decide_eq_true q3)
  have HF3 := Lib.hid (tdF_3 HA.out q3)
  have HF4 := Lib.hid (tdF_4 HA.out q3)
  have HAL : Hid (tdAll l hold = hTdAt l hold l.length) := Lib.hid (td_same HA.out)
  clear q3
  generalize hta : tdAll l hold = all at *
  have HTA := Lib.hid hta
  clear hta
  generalize w1' = w1 at *
  go_wp2_with fail
  go_loopw [7, 23] (fun vo vi wr => ∃ (k : Nat) (ao : Value), vo = ao ∧ k ≤ l.length ∧ vi = .int .i64 k ∧ Hid (wr.ownsRow w1.heap.size 32 9 ao (hTdAt l hold k).length ((hTdAt l hold k).flatMap rgtCells)) ∧ Hid (Below w1.heap.size w1 wr)) (fun _ vi _ => l.length - (intOf vi).toNat)
  case atStart => exact ⟨0, _, rfl, by omega, rfl, Lib.hid (World.ownsRow_nil _ _ _ _), Below.refl _ _⟩
  case round =>
    obtain ⟨k, vo, rfl, hk, rfl, HO, HB⟩ := hrel
    have HBW := Lib.hid (HB1.out.trans (HB.out.mono HB1.out.size))
    have hl0 := hTdAt_len l hold k
    by_cases hlt : k < l.length
    · obtain ⟨ad, c', e1, hadb, c0, c1, c2, c3, hz⟩ := app_at (Rp.below _ H0.out HBW.out) hlt
      cases e1
      clear hz
      have HNX := Lib.hid (hTdAt_next (hold := hold) hlt)
      have HAS := Lib.hid (stp_asked hlt)
      generalize hTdAt l hold k = ts at *
      generalize hx : l[k] = x at *
      clear hx
      have hal := (Below.refl wr.heap.size wr).alloc (Nat.le_refl _) (.cells #[.string (bstr x.id), .int .i64 x.kind, .int .i64 x.at_, .string (bstr x.pre)] 42)
      have HB2 := Lib.hid (HB.out.trans (hal.mono HB.out.size))
      have HO2 := Lib.hid (own_below HO.out hal)
      have HKX2 := Lib.hid (Blk.new wr 42 [.string (bstr x.id), .int .i64 x.kind, .int .i64 x.at_, .string (bstr x.pre)])
      clear hal HBW
      go_upto_region 10 with fail
      clear c0 c1 c2 c3
      obtain ⟨xb, hxb⟩ : ∃ xb, xb = wr.heap.size := ⟨_, rfl⟩
      rw [← hxb] at HKX2 ⊢
      clear hxb HB HO
      generalize wr.alloc (.cells #[.string (bstr x.id), .int .i64 x.kind, .int .i64 x.at_, .string (bstr x.pre)] 42) = w2 at *
      have x0 : w2.cell? ⟨xb, 0, none⟩ = some (.string (bstr x.id)) := HKX2.out.cell 0
      have x1 : w2.cell? ⟨xb, 1, none⟩ = some (.int .i64 x.kind) := HKX2.out.cell 1
      have x2 : w2.cell? ⟨xb, 2, none⟩ = some (.int .i64 x.at_) := HKX2.out.cell 2
      have x3 : w2.cell? ⟨xb, 3, none⟩ = some (.string (bstr x.pre)) := HKX2.out.cell 3
      by_cases hk1 : x.kind = 1
      case neg =>
        have HT : Hid (hTdOne l hold x = []) := Lib.hid (if_neg (fun e => hk1 e.1))
        have hkb : (x.kind != (1 : Int)) = true := by simpa using hk1
        clear hk1
        go_wp2_with fail
        clear x0 x1 x2 x3
        go_roundw
        case rel => first | exact ⟨k + 1, _, rfl, by omega, by go_num, by rw [HNX.out, HT.out, List.append_nil]; exact HO2, HB2⟩ | (repeat (apply Exists.intro); (refine And.intro ?_ ?_; rotate_left; (repeat' (first | exact rfl | apply And.intro)); exact ⟨k + 1, _, rfl, by omega, by go_num, by rw [HNX.out, HT.out, List.append_nil]; exact HO2, HB2⟩))
        case measure => simp [intOf]; omega
      have hkb : (x.kind != (1 : Int)) = false := by simpa using hk1
      have HK1 := Lib.hid hk1
      have HAS2 := Lib.hid (HAS.out hk1)
      have HRG : Hid (0 ≤ (stpAt l x.id l.length).1.ask.at_ ∧ (stpAt l x.id l.length).1.ask.at_ ≤ 253402300799) := Lib.hid (stpAt_at (P := fun x => 0 ≤ x.at_ ∧ x.at_ ≤ 253402300799) l.length (fun j hj => at_in HA.out hj) HAS2.out)
      clear hk1 HAS
      go_wp2_with fail
      clear x0 x1 x2 x3
      refine (standing_any _ l x.id w2 (Rp.ext _ H0.out (HB1.out.trans (HB2.out.mono HB1.out.size)))).mono ?_
      rintro e w3 ⟨rfl, hb⟩
      have HB3 := Lib.hid (HB2.out.trans (hb.mono HB2.out.size))
      have HO3 := Lib.hid (own_below HO2.out hb)
      have HKX3 := Lib.hid (HKX2.out.same (same_below hb) HKX2.out.lt)
      clear hb HB2 HO2 HKX2
      have HTD : Hid (hTdOne l hold x = if x.at_ < endV (stpAt l x.id l.length).1 hold then [⟨x.id, x.pre, 0, 253402300800, x.at_, endV (stpAt l x.id l.length).1 hold, x.at_, 4, []⟩] else []) := Lib.hid (by
        unfold hTdOne
        by_cases h : x.at_ < endV (stpAt l x.id l.length).1 hold
        · rw [if_pos ⟨HK1.out, h⟩, if_pos h]
        · rw [if_neg (fun e => h e.2), if_neg h])
      generalize stpAt l x.id l.length = st at *
      obtain ⟨s, fd⟩ := st
      replace HRG : Hid (0 ≤ s.ask.at_ ∧ s.ask.at_ ≤ 253402300799) := HRG
      replace HTD : Hid (hTdOne l hold x = if x.at_ < endV s hold then [⟨x.id, x.pre, 0, 253402300800, x.at_, endV s hold, x.at_, 4, []⟩] else []) := HTD
      try dsimp only [stpCells]
      have hal := (Below.refl w3.heap.size w3).alloc (Nat.le_refl _) (.cells #[.string (bstr s.ask.id), .int .i64 s.ask.kind, .int .i64 s.ask.at_, .string (bstr s.ask.pre), .bool s.granted, .int .i64 s.ended, .int .i64 s.end_] 60)
      have HB4 := Lib.hid (HB3.out.trans (hal.mono HB3.out.size))
      have HO4 := Lib.hid (own_below HO3.out hal)
      have HKX4 := Lib.hid (HKX3.out.same (same_below hal) HKX3.out.lt)
      have HKS4 := Lib.hid (Blk.new w3 60 [.string (bstr s.ask.id), .int .i64 s.ask.kind, .int .i64 s.ask.at_, .string (bstr s.ask.pre), .bool s.granted, .int .i64 s.ended, .int .i64 s.end_])
      clear hal HB3 HO3 HKX3
      go_upto_region 12 with fail
      obtain ⟨sb, hsb⟩ : ∃ sb, sb = w3.heap.size := ⟨_, rfl⟩
      rw [← hsb] at HKS4 ⊢
      clear hsb
      generalize w3.alloc (.cells #[.string (bstr s.ask.id), .int .i64 s.ask.kind, .int .i64 s.ask.at_, .string (bstr s.ask.pre), .bool s.granted, .int .i64 s.ended, .int .i64 s.end_] 60) = w4 at *
      have s0 : w4.cell? ⟨sb, 0, none⟩ = some (.string (bstr s.ask.id)) := HKS4.out.cell 0
      have s1 : w4.cell? ⟨sb, 1, none⟩ = some (.int .i64 s.ask.kind) := HKS4.out.cell 1
      have s2 : w4.cell? ⟨sb, 2, none⟩ = some (.int .i64 s.ask.at_) := HKS4.out.cell 2
      have s3 : w4.cell? ⟨sb, 3, none⟩ = some (.string (bstr s.ask.pre)) := HKS4.out.cell 3
      have s4 : w4.cell? ⟨sb, 4, none⟩ = some (.bool s.granted) := HKS4.out.cell 4
      have s5 : w4.cell? ⟨sb, 5, none⟩ = some (.int .i64 s.ended) := HKS4.out.cell 5
      have s6 : w4.cell? ⟨sb, 6, none⟩ = some (.int .i64 s.end_) := HKS4.out.cell 6
      go_wp2_with fail
      clear s0 s1 s2 s3 s4 s5 s6
      refine (endOf_any s hold w4 HRG.out HHO.out).mono ?_
      rintro e w5 ⟨rfl, hb⟩
      have HB5 := Lib.hid (HB4.out.trans (hb.mono HB4.out.size))
      have HO5 := Lib.hid (own_below HO4.out hb)
      have HKX5 := Lib.hid (HKX4.out.same (same_below hb) HKX4.out.lt)
      clear hb HB4 HO4 HKX4 HKS4
      generalize endV s hold = ev at *
      have x0 : w5.cell? ⟨xb, 0, none⟩ = some (.string (bstr x.id)) := HKX5.out.cell 0
      have x2 : w5.cell? ⟨xb, 2, none⟩ = some (.int .i64 x.at_) := HKX5.out.cell 2
      have x3 : w5.cell? ⟨xb, 3, none⟩ = some (.string (bstr x.pre)) := HKX5.out.cell 3
      have hB5 := HB5.out.size
      by_cases hd : x.at_ < ev
      · have HT : Hid (hTdOne l hold x = [⟨x.id, x.pre, 0, 253402300800, x.at_, ev, x.at_, 4, []⟩]) := Lib.hid (HTD.out.trans (if_pos hd))
        clear HTD
        go_wp2_with (at_builtin; go_must (refine app_new (w := w5) rfl (.tmp 44) (.tmp 55) 27 rfl 32 (.agg #[.string ⟨#[]⟩, .string ⟨#[]⟩, .int .i64 0, .int .i64 0, .int .i64 0, .int .i64 0, .int .i64 0, .int .i64 0, .string ⟨#[]⟩]) 9 96 Tryd.underlying27 rgt_info rfl (by decide) (m := 1) [.string (bstr x.id), .string (bstr x.pre), .int .i64 0, .int .i64 253402300800, .int .i64 x.at_, .int .i64 ev, .int .i64 x.at_, .int .i64 4, .string ⟨#[]⟩] HO5.out hB5 rfl rfl rfl (by decide) (by simp [Value.oneCell']) (by unfold maxLen; omega) (by omega) ?_); intro g8 c8 w8 HO8 HG8 HE8 HL8)
        have HB8 := Lib.hid (HB5.out.grown HG8.out hB5 (fun j hj => (HO5.out.lt j hj).1))
        have HON : Hid (w8.ownsRow w1.heap.size 32 9 (.slice (some ⟨g8, 0, none⟩) (ts.length + 1) c8) (ts ++ hTdOne l hold x).length ((ts ++ hTdOne l hold x).flatMap rgtCells)) := Lib.hid (by
          have h9 := HO8.out
          rw [HT.out, List.flatMap_append, List.length_append]
          simpa [rgtCells, show bstr [] = ⟨#[]⟩ from rfl] using h9)
        clear x0 x2 x3 hd HO5 HB5 HO8 HG8 HE8 HL8
        go_roundw
        case rel => first | exact ⟨k + 1, _, rfl, by omega, by go_num, by rw [HNX.out]; exact HON, HB8⟩ | (repeat (apply Exists.intro); (refine And.intro ?_ ?_; rotate_left; (repeat' (first | exact rfl | apply And.intro)); exact ⟨k + 1, _, rfl, by omega, by go_num, by rw [HNX.out]; exact HON, HB8⟩))
        case measure => simp [intOf]; omega
      · have HT : Hid (hTdOne l hold x = []) := Lib.hid (HTD.out.trans (if_neg hd))
        go_wp2_with fail
        clear x0 x2 x3 hd
        go_roundw
        case rel => first | exact ⟨k + 1, _, rfl, by omega, by go_num, by rw [HNX.out, HT.out, List.append_nil]; exact HO5, HB5⟩ | (repeat (apply Exists.intro); (refine And.intro ?_ ?_; rotate_left; (repeat' (first | exact rfl | apply And.intro)); exact ⟨k + 1, _, rfl, by omega, by go_num, by rw [HNX.out, HT.out, List.append_nil]; exact HO5, HB5⟩))
        case measure => simp [intOf]; omega
    · have hke : k = l.length := by omega
      subst hke
      have HQ : Hid (hTdAt l hold l.length = all) := Lib.hid HAL.out.symm
      rw [HQ.out] at HO hl0
      clear HQ HAL
      obtain ⟨Av, cv, hvv, hcv1, hcv2, _⟩ := own_form HO.out
      subst hvv
      by_cases h3 : 300 < all.length
      · have HF : Hid (tdF l hold = 2) := Lib.hid (HF3.out h3)
        have h3' : (300 : Int) < (all.length : Int) := by omega
        go_wp2_with fail
        go_ret2
        exact td_bad HF.out (by decide) HBW.out
      · have HF : Hid (tdF l hold = 0) := Lib.hid (HF4.out h3)
        have h3' : ¬ (300 : Int) < (all.length : Int) := by omega
        go_wp2_with fail
        go_ret2
        exact ⟨.slice Av all.length cv, by rw [HF.out]; rfl, by rw [tdV_ok HF.out, HTA.out]; exact World.ownsRow.mono HO.out HB1.out.size, HBW.out⟩
end Go.Proofs.YtgbpnghgcffkbaaDoor
