/-
  The laws 'RightsAppealsMatchSpec' and 'RightsTakedownsHold' walked: each returns true.
-/
import Derived.Test.YtgbpnghgcffkbaaDoorHTd
import Derived.Test.YtgbpnghgcffkbaaDoorEqRg
import Derived.Test.YtgbpnghgcffkbaaDoorAwake10
namespace Go.Proofs.YtgbpnghgcffkbaaDoor
open Go.RowKit
set_option linter.unusedVariables false
set_option linter.unusedSimpArgs false

set_option maxRecDepth 100000 in
set_option maxHeartbeats 4000000 in
theorem appealsLaw_any (v0 : Value) (l : List App) (v1 : Value) (id0 : ByteArray) (v2 : Value) (hold : Int) (v3 : Value) (at_ : Int) (w : World) (h0 : (Rp.sl appRp).ok w (· < w.heap.size) [v0] l) (f0 : (Rp.sl appRp).fits l) (h1 : Rp.str.ok w (· < w.heap.size) [v1] id0) (f1 : Rp.str.fits id0) (h2 : (Rp.int .i64).ok w (· < w.heap.size) [v2] hold) (f2 : (Rp.int .i64).fits hold) (h3 : (Rp.int .i64).ok w (· < w.heap.size) [v3] at_) (f3 : (Rp.int .i64).fits at_) :
    Calls Tryd.prog 4 #[v0, v1, v2, v3] w fun e w' => e = .returned (.bool true) ∧ Below w.heap.size w w' := by
  obtain ⟨e1, hw1⟩ := h1
  injection e1 with e1
  subst e1
  obtain ⟨id, rfl⟩ : ∃ id, id0 = bstr id := ⟨id0.data.toList, (bstr_eq id0).symm⟩
  have hl_id : id.length ≤ 9223372036854775807 := hw1
  clear hw1 f1
  obtain ⟨e2, hw_hold⟩ := h2
  injection e2 with e2
  subst e2
  clear f2
  obtain ⟨e3, hw_at_⟩ := h3
  injection e3 with e3
  subst e3
  clear f3
  have H0 := Lib.hid h0
  clear h0 f0
  go_enter Tryd.func4, Tryd.ntmps4
  go_wp2_with fail
  refine (stateOf_any _ l id hold at_ w H0.out hl_id).mono ?_
  rintro e w1 ⟨rfl, hb⟩
  have HB1 := Lib.hid hb
  clear hb
  go_wp2_with fail
  refine (hStateOf_any _ l id hold at_ w1 (Rp.ext _ H0.out HB1.out) hl_id).mono ?_
  rintro e w2 ⟨rfl, hb⟩
  have HB2 := Lib.hid (HB1.out.trans (hb.mono HB1.out.size))
  clear hb
  clear HB1
  generalize stF l id hold at_ = f1 at *
  generalize stV l id hold at_ = n1 at *
  have hff : (f1 != f1) = false := by simp
  have hnn : (n1 != n1) = false := by simp
  go_wp2_with fail
  refine (chkAppeals_any _ l w2 (Rp.ext _ H0.out HB2.out)).mono ?_
  rintro e w3 ⟨rfl, hb⟩
  have HB3 := Lib.hid (HB2.out.trans (hb.mono HB2.out.size))
  clear hb
  clear HB2
  go_wp2_with fail
  refine (hApps_any _ l w3 (Rp.ext _ H0.out HB3.out)).mono ?_
  rintro e w4 ⟨rfl, hb⟩
  have HB4 := Lib.hid (HB3.out.trans (hb.mono HB3.out.size))
  clear hb
  clear HB3
  rw [← apps_same]
  generalize appsFault l = fa at *
  have hfa : (fa != fa) = false := by simp
  go_wp2_with fail
  clear hff hnn hfa
  refine (takedowns_any _ l hold w4 (Rp.ext _ H0.out HB4.out)).mono ?_
  rintro e w5 ⟨vx, rfl, hx, hb⟩
  have HB5 := Lib.hid (HB4.out.trans (hb.mono HB4.out.size))
  have HX := Lib.hid (rgts_read hx td_ok)
  clear hx
  clear hb
  clear HB4
  go_wp2_with fail
  refine (hTakedowns_any _ l hold w5 (Rp.ext _ H0.out HB5.out)).mono ?_
  rintro e w6 ⟨vy, rfl, hy, hb⟩
  have HB6 := Lib.hid (HB5.out.trans (hb.mono HB5.out.size))
  have HY := Lib.hid (rgts_read hy td_ok)
  have HX6 := Lib.hid (Rp.ext _ HX.out hb)
  clear hy HX
  clear hb
  clear HB5
  generalize tdF l hold = g at *
  generalize tdV l hold = xs at *
  go_wp2_with fail
  refine (eqRgt_is vx vy xs w6 _ _ HX6.out HY.out).mono ?_
  rintro e w7 ⟨rfl, n, rfl⟩
  have HB7 := Lib.hid (below_drewN HB6.out n)
  clear HB6 HX6 HY
  generalize w6.drewN n = w7 at *
  go_wp2_with fail
  refine (awake_any _).mono ?_
  rintro e wz ⟨rfl, hb⟩
  have HBZ := Lib.hid (HB7.out.trans (hb.mono HB7.out.size))
  clear hb
  go_wp2_with fail
  go_ret
  exact ⟨rfl, HBZ.out⟩
theorem stF_parts {l : List App} {id : List UInt8} {hold at_ : Int} (h : stF l id hold at_ = 0) : appsFault l = 0 ∧ withinB hold 0 1000000000 = true ∧ withinB at_ 0 253402300799 = true := by
  unfold stF at h
  split at h
  · rename_i e; exact absurd h e
  · rename_i e
    split at h
    · cases h
    · split at h
      · cases h
      · split at h
        · cases h
        · rename_i e2
          refine ⟨Decidable.not_not.1 e, ?_, ?_⟩
          · cases q : withinB hold 0 1000000000 with
            | true => rfl
            | false => exact absurd (.inl q) e2
          · cases q : withinB at_ 0 253402300799 with
            | true => rfl
            | false => exact absurd (.inr q) e2
theorem closed_take {xs : List Rgt} {id : List UInt8} {at_ : Int} {k : Nat} (h : k < xs.length) : closedB (xs.take (k + 1)) id at_ = (closedB (xs.take k) id at_ || decide (xs[k].id = id ∧ xs[k].st ≤ at_ ∧ at_ < xs[k].en)) := by
  unfold closedB
  rw [List.take_succ_eq_append_getElem h, List.any_append]
  simp
theorem teams0 : teamsFault [] = 0 := by
  unfold teamsFault
  rw [if_neg (by decide), if_neg (by decide), if_neg (by decide)]
  have : ¬ Looped ([] : List Team) := by
    unfold Looped
    rintro ⟨i, hi, _⟩
    exact absurd hi (by simp)
  simp [this]
set_option maxRecDepth 100000 in
set_option maxHeartbeats 4000000 in
theorem holdLaw_any (v0 : Value) (l : List App) (v1 : Value) (id0 : ByteArray) (v2 : Value) (hold : Int) (v3 : Value) (at_ : Int) (w : World) (h0 : (Rp.sl appRp).ok w (· < w.heap.size) [v0] l) (f0 : (Rp.sl appRp).fits l) (h1 : Rp.str.ok w (· < w.heap.size) [v1] id0) (f1 : Rp.str.fits id0) (h2 : (Rp.int .i64).ok w (· < w.heap.size) [v2] hold) (f2 : (Rp.int .i64).fits hold) (h3 : (Rp.int .i64).ok w (· < w.heap.size) [v3] at_) (f3 : (Rp.int .i64).fits at_) :
    Calls Tryd.prog 3 #[v0, v1, v2, v3] w fun e w' => e = .returned (.bool true) ∧ Below w.heap.size w w' := by
  obtain ⟨e1, hw1⟩ := h1
  injection e1 with e1
  subst e1
  obtain ⟨id, rfl⟩ : ∃ id, id0 = bstr id := ⟨id0.data.toList, (bstr_eq id0).symm⟩
  have hl_id : id.length ≤ 9223372036854775807 := hw1
  clear hw1 f1
  obtain ⟨e2, hw_hold⟩ := h2
  injection e2 with e2
  subst e2
  clear f2
  obtain ⟨e3, hw_at_⟩ := h3
  injection e3 with e3
  subst e3
  clear f3
  have H0 := Lib.hid h0
  clear h0 f0
  go_enter Tryd.func3, Tryd.ntmps3
  go_wp2_with fail
  refine (stateOf_any _ l id hold 253402300799 w H0.out hl_id).mono ?_
  rintro e w1 ⟨rfl, hb⟩
  have HB1 := Lib.hid hb
  clear hb
  by_cases h1 : stF l id hold 253402300799 = 0
  case neg =>
    have HV : Hid (stV l id hold 253402300799 = 0) := Lib.hid (stV_bad rfl h1)
    have hn : (stF l id hold 253402300799 != 0) = true := by simpa using h1
    rw [HV.out]
    generalize stF l id hold 253402300799 = ff at *
    go_wp2_with fail
    refine (awake_any _).mono ?_
    rintro e wz ⟨rfl, hb⟩
    have HBZ := Lib.hid (HB1.out.trans (hb.mono HB1.out.size))
    clear hb
    go_wp2_with fail
    go_ret
    exact ⟨rfl, HBZ.out⟩
  obtain ⟨ha, hh, _⟩ := stF_parts h1
  have HV := Lib.hid (stV_ok h1)
  have HHO : Hid (0 ≤ hold ∧ hold ≤ 1000000000) := Lib.hid (of_decide_eq_true hh)
  have HA := Lib.hid ha
  rw [h1, HV.out]
  have HH := Lib.hid hh
  clear h1 ha hh
  generalize hvm : stVal (folV l 253402300799) id hold 253402300799 = vm at *
  have HVM := Lib.hid hvm
  clear hvm HV
  go_wp2_with fail
  refine (takedowns_any _ l hold w1 (Rp.ext _ H0.out HB1.out)).mono ?_
  rintro e w2 ⟨vx, rfl, hx, hb⟩
  have HB2 := Lib.hid (HB1.out.trans (hb.mono HB1.out.size))
  have HX := Lib.hid (rgts_read hx td_ok)
  clear hx
  clear hb
  clear HB1
  by_cases h3 : 300 < (tdAll l hold).length
  · have HF := Lib.hid (tdF_3 HA.out HH.out h3)
    rw [HF.out]
    clear h3
    go_wp2_with fail
    go_ret
    exact ⟨rfl, HB2.out⟩
  have HF := Lib.hid (tdF_4 HA.out HH.out h3)
  have HXS : Hid (tdV l hold = tdAll l hold) := Lib.hid (tdV_ok HF.out)
  rw [HXS.out] at HX
  have HRT : Hid (rightsFault [] (tdAll l hold) = 0) := Lib.hid (by rw [rightsFault, if_neg (by rw [teams0]; decide)]; exact td_good HA.out HHO.out.1 h3)
  have hxl : (tdAll l hold).length ≤ 300 := by omega
  have HCL : Hid (0 ≤ at_ ∧ at_ ≤ 253402300799 → (vm = 4 → (closedB (tdAll l hold) id at_ = true ↔ stVal (folV l at_) id hold at_ ≠ 1)) ∧ (stVal (folV l at_) id hold at_ = 2 → closedB (tdAll l hold) id at_ = true)) := Lib.hid (fun hr => by rw [← HVM.out]; exact closed_law HA.out HHO.out.1 hr)
  rw [HF.out]
  clear h3 HF HXS HVM
  generalize tdAll l hold = xs at *
  go_wp2_with fail
  refine (checkRights_any _ [] _ xs w2 (Rp.sl_nil _ _ _) HX.out).mono ?_
  rintro e w3 ⟨rfl, hb⟩
  have HB3 := Lib.hid (HB2.out.trans (hb.mono HB2.out.size))
  have HX3 := Lib.hid (Rp.ext _ HX.out hb)
  clear HX
  clear hb
  clear HB2
  rw [HRT.out]
  go_wp2_with fail
  refine (awake_any _).mono ?_
  rintro e w4 ⟨rfl, hb⟩
  have HB4 := Lib.hid (HB3.out.trans (hb.mono HB3.out.size))
  have HX4 := Lib.hid (Rp.ext _ HX3.out hb)
  clear hb HX3 HB3
  go_wp2_with fail
  refine (stateOf_any _ l id hold at_ w4 (Rp.ext _ H0.out HB4.out) hl_id).mono ?_
  rintro e w5 ⟨rfl, hb⟩
  have HB5 := Lib.hid (HB4.out.trans (hb.mono HB4.out.size))
  have HX5 := Lib.hid (Rp.ext _ HX4.out hb)
  clear HX4
  clear hb
  clear HB4
  by_cases h2 : stF l id hold at_ = 0
  case neg =>
    have hn : (stF l id hold at_ != 0) = true := by simpa using h2
    generalize stF l id hold at_ = ff at *
    generalize stV l id hold at_ = nn at *
    go_wp2_with fail
    go_ret
    exact ⟨rfl, HB5.out⟩
  obtain ⟨_, _, hr⟩ := stF_parts h2
  have HRG : Hid (0 ≤ at_ ∧ at_ ≤ 253402300799) := Lib.hid (of_decide_eq_true hr)
  have HC := Lib.hid (HCL.out HRG.out)
  rw [h2, stV_ok h2]
  clear h2 hr HCL
  generalize stVal (folV l at_) id hold at_ = nw at *
  obtain ⟨Ax, cx, hvx, hlx, hcx, _⟩ := Rp.sl_open HX5.out
  subst hvx
  unfold maxLen at hcx
  go_wp2_with fail
  go_loopw [13, 59] (fun vc vi wr => ∃ k : Nat, k ≤ xs.length ∧ vc = .bool (closedB (xs.take k) id at_) ∧ vi = .int .i64 k ∧ Hid (Below w.heap.size w wr) ∧ Hid ((Rp.sl rgtRp).ok wr (· < wr.heap.size) [.slice Ax xs.length cx] xs)) (fun _ vi _ => xs.length - (intOf vi).toNat)
  case atStart => exact ⟨0, by omega, rfl, rfl, HB5, HX5⟩
  case round =>
    clear HB5 HX5
    obtain ⟨k, hk, rfl, rfl, HB, HX⟩ := hrel
    by_cases hlt : k < xs.length
    · obtain ⟨ad, c', e1, hadb, c0, c1, c2, c3, c4, c5, c6, c7, c8, hz⟩ := rgt_at HX.out hlt
      cases e1
      clear hz
      have HTK := Lib.hid (closed_take (id := id) (at_ := at_) hlt)
      generalize xs[k] = x at *
      generalize closedB (xs.take k) id at_ = cb at *
      have hal := (Below.refl wr.heap.size wr).alloc (Nat.le_refl _) (.cells #[.string (bstr x.id), .string (bstr x.pre), .int .i64 x.frm, .int .i64 x.to, .int .i64 x.st, .int .i64 x.en, .int .i64 x.made, .int .i64 x.kind, .string (bstr x.team)] 32)
      have HB2 := Lib.hid (HB.out.trans (hal.mono HB.out.size))
      have HX2 := Lib.hid (Rp.ext _ HX.out hal)
      have HKX2 := Lib.hid (Blk.new wr 32 [.string (bstr x.id), .string (bstr x.pre), .int .i64 x.frm, .int .i64 x.to, .int .i64 x.st, .int .i64 x.en, .int .i64 x.made, .int .i64 x.kind, .string (bstr x.team)])
      clear hal HB HX
      go_upto_region 16 with fail
      clear c0 c1 c2 c3 c4 c5 c6 c7 c8
      obtain ⟨xb, hxb⟩ : ∃ xb, xb = wr.heap.size := ⟨_, rfl⟩
      rw [← hxb] at HKX2 ⊢
      clear hxb
      generalize wr.alloc (.cells #[.string (bstr x.id), .string (bstr x.pre), .int .i64 x.frm, .int .i64 x.to, .int .i64 x.st, .int .i64 x.en, .int .i64 x.made, .int .i64 x.kind, .string (bstr x.team)] 32) = w6 at *
      have x0 : w6.cell? ⟨xb, 0, none⟩ = some (.string (bstr x.id)) := HKX2.out.cell 0
      have x4 : w6.cell? ⟨xb, 4, none⟩ = some (.int .i64 x.st) := HKX2.out.cell 4
      have x5 : w6.cell? ⟨xb, 5, none⟩ = some (.int .i64 x.en) := HKX2.out.cell 5
      cases cb with
      | true =>
        have HT : Hid (closedB (xs.take (k + 1)) id at_ = true) := Lib.hid (by rw [HTK.out]; rfl)
        clear HTK
        go_wp2_with fail
        clear x0 x4 x5
        go_roundw
        case rel => first | exact ⟨k + 1, by omega, by rw [HT.out], by go_num, HB2, HX2⟩ | (repeat (apply Exists.intro); (refine And.intro ?_ ?_; rotate_left; (repeat' (first | exact rfl | apply And.intro)); exact ⟨k + 1, by omega, by rw [HT.out], by go_num, HB2, HX2⟩))
        case measure => simp [intOf]; omega
      | false =>
        have HT : Hid (closedB (xs.take (k + 1)) id at_ = decide (x.id = id ∧ x.st ≤ at_ ∧ at_ < x.en)) := Lib.hid (by rw [HTK.out]; simp)
        clear HTK
        by_cases he : x.id = id
        · have hbq : ((bstr x.id).toList == (bstr id).toList) = true := by rw [he]; simp
          by_cases h4 : x.st ≤ at_
          · have HT2 : Hid (closedB (xs.take (k + 1)) id at_ = decide (at_ < x.en)) := Lib.hid (by rw [HT.out]; simp [he, h4])
            clear HT he
            go_wp2_with fail
            clear x0 x4 x5 hbq
            go_roundw
            case rel => first | exact ⟨k + 1, by omega, by rw [HT2.out], by go_num, HB2, HX2⟩ | (repeat (apply Exists.intro); (refine And.intro ?_ ?_; rotate_left; (repeat' (first | exact rfl | apply And.intro)); exact ⟨k + 1, by omega, by rw [HT2.out], by go_num, HB2, HX2⟩))
            case measure => simp [intOf]; omega
          · have HT2 : Hid (closedB (xs.take (k + 1)) id at_ = false) := Lib.hid (by rw [HT.out]; simp [h4])
            clear HT he
            go_wp2_with fail
            clear x0 x4 x5 hbq
            go_roundw
            case rel => first | exact ⟨k + 1, by omega, by rw [HT2.out], by go_num, HB2, HX2⟩ | (repeat (apply Exists.intro); (refine And.intro ?_ ?_; rotate_left; (repeat' (first | exact rfl | apply And.intro)); exact ⟨k + 1, by omega, by rw [HT2.out], by go_num, HB2, HX2⟩))
            case measure => simp [intOf]; omega
        · have hbq : ((bstr x.id).toList == (bstr id).toList) = false := str_bne (fun e => he (bstr_inj e))
          have HT2 : Hid (closedB (xs.take (k + 1)) id at_ = false) := Lib.hid (by rw [HT.out]; simp [he])
          clear HT he
          go_wp2_with fail
          clear x0 x4 x5 hbq
          go_roundw
          case rel => first | exact ⟨k + 1, by omega, by rw [HT2.out], by go_num, HB2, HX2⟩ | (repeat (apply Exists.intro); (refine And.intro ?_ ?_; rotate_left; (repeat' (first | exact rfl | apply And.intro)); exact ⟨k + 1, by omega, by rw [HT2.out], by go_num, HB2, HX2⟩))
          case measure => simp [intOf]; omega
    · have HTL : Hid (closedB (xs.take k) id at_ = closedB xs id at_) := Lib.hid (by rw [List.take_of_length_le (by omega)])
      rw [HTL.out]
      clear HTL
      generalize closedB xs id at_ = cb at *
      by_cases h4 : vm = 4
      · have HCC := Lib.hid (HC.out.1 h4)
        have hvb : (vm == (4 : Int)) = true := by simpa using h4
        have HEQ : Hid (cb = (nw != (1 : Int))) := Lib.hid (by
          have h := HCC.out
          cases cb <;> cases hq : (nw != (1 : Int)) <;> simp_all)
        clear HC HCC h4
        go_wp2_with fail
        go_ret
        exact ⟨by rw [HEQ.out]; simp, HB.out⟩
      · have hvb : (vm == (4 : Int)) = false := by simpa using h4
        have HC2 := Lib.hid HC.out.2
        clear HC h4
        by_cases hw2 : nw = 2
        · have HCB := Lib.hid (HC2.out hw2)
          have hwb : (nw != (2 : Int)) = false := by simpa using hw2
          clear hw2 HC2
          rw [HCB.out]
          go_wp2_with fail
          go_ret
          exact ⟨rfl, HB.out⟩
        · have hwb : (nw != (2 : Int)) = true := by simpa using hw2
          clear hw2 HC2
          go_wp2_with fail
          go_ret
          exact ⟨rfl, HB.out⟩
end Go.Proofs.YtgbpnghgcffkbaaDoor
