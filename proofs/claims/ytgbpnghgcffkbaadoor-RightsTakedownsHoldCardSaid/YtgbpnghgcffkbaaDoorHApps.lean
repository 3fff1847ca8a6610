/-
  'CheckAppeals' of the reference of chapter 10.
-/
import Derived.Test.YtgbpnghgcffkbaaDoorRefStand
import Derived.Test.YtgbpnghgcffkbaaDoorStLaw
import Derived.Test.YtgbpnghgcffkbaaDoorShown
namespace Go.Proofs.YtgbpnghgcffkbaaDoor
open Go.RowKit
set_option linter.unusedVariables false
set_option linter.unusedSimpArgs false

theorem stp_take {l : List App} {id : List UInt8} {k : Nat} (hk : k ≤ l.length) : ∀ j, j ≤ k → stpAt (l.take k) id j = stpAt l id j
  | 0, _ => rfl
  | j + 1, hj => by
    rw [stpAt, stpAt, stp_take hk j (by omega)]
    congr 1
    rw [getD_at l _ (show j < l.length by omega), getD_at _ _ (show j < (l.take k).length by rw [List.length_take]; omega), List.getElem_take]
theorem stp_part {l : List App} {id : List UInt8} {k : Nat} (hk : k ≤ l.length) : stpAt (l.take k) id (l.take k).length = stpAt l id k := by
  have hl : (l.take k).length = k := by rw [List.length_take]; omega
  rw [hl]
  exact stp_take hk k (Nat.le_refl _)
theorem put7 {w w0 : World} {b xb B : Nat} {T T2 : TypeId} {ds : List Value} {a0 a1 a2 a3 a4 a5 a6 v0 v1 v2 v3 v4 v5 v6 : Value} (hb : Blk w b T [a0, a1, a2, a3, a4, a5, a6]) (hx : Blk w xb T2 ds) (hne : b ≠ xb) (hB : B ≤ b) (hbl : Below B w0 w) :
    Blk (((((((w.setCell ⟨b, 0, none⟩ v0).setCell ⟨b, 1, none⟩ v1).setCell ⟨b, 2, none⟩ v2).setCell ⟨b, 3, none⟩ v3).setCell ⟨b, 4, none⟩ v4).setCell ⟨b, 5, none⟩ v5).setCell ⟨b, 6, none⟩ v6) b T [v0, v1, v2, v3, v4, v5, v6] ∧
    Blk (((((((w.setCell ⟨b, 0, none⟩ v0).setCell ⟨b, 1, none⟩ v1).setCell ⟨b, 2, none⟩ v2).setCell ⟨b, 3, none⟩ v3).setCell ⟨b, 4, none⟩ v4).setCell ⟨b, 5, none⟩ v5).setCell ⟨b, 6, none⟩ v6) xb T2 ds ∧
    Below B w0 (((((((w.setCell ⟨b, 0, none⟩ v0).setCell ⟨b, 1, none⟩ v1).setCell ⟨b, 2, none⟩ v2).setCell ⟨b, 3, none⟩ v3).setCell ⟨b, 4, none⟩ v4).setCell ⟨b, 5, none⟩ v5).setCell ⟨b, 6, none⟩ v6) := by
  have st : ∀ {w : World} (i : Nat) (v : Value), Blk w xb T2 ds → Blk (w.setCell ⟨b, i, none⟩ v) xb T2 ds := fun i v h => h.same (grown_same (set_grownR _ b i v)) ⟨h.lt, fun e => hne (Option.some.inj e).symm⟩
  exact ⟨((((((hb.set_ 0 v0).set_ 1 v1).set_ 2 v2).set_ 3 v3).set_ 4 v4).set_ 5 v5).set_ 6 v6, st 6 v6 (st 5 v5 (st 4 v4 (st 3 v3 (st 2 v2 (st 1 v1 (st 0 v0 hx)))))), ((((((hbl.setCell hB v0).setCell hB v1).setCell hB v2).setCell hB v3).setCell hB v4).setCell hB v5).setCell hB v6⟩
theorem hApps_2 {l : List App} (h : ¬ 500 < l.length) {i : Nat} (hi : i < l.length) (hS : ∀ j, j < i → folH l j = 0) {f : Int} (hf : folH l i = f) (hn : f ≠ 0) : appsFaultH l = f := by
  rw [appsFaultH, if_neg h, firstF_at hi hS (by rw [hf]; exact hn), hf]
theorem hApps_3 {l : List App} (h : ¬ 500 < l.length) (hS : ∀ j, j < l.length → folH l j = 0) : appsFaultH l = 0 := by
  rw [appsFaultH, if_neg h, firstF_ok hS]
set_option maxRecDepth 100000 in
set_option maxHeartbeats 8000000 in
theorem hApps_any (v : Value) (l : List App) (w : World) (h0 : (Rp.sl appRp).ok w (· < w.heap.size) [v] l) :
    Calls Tryd.prog 11 #[v] w fun e w' => e = .returned (.int .i64 (appsFaultH l)) ∧ Below w.heap.size w w' := by
  obtain ⟨A, cc, rfl, hl, hc, _⟩ := Rp.sl_open h0
  unfold maxLen at hc
  have H0 := Lib.hid h0
  clear h0
  by_cases h5 : 500 < l.length
  · have HF : Hid (appsFaultH l = 2) := Lib.hid (if_pos h5)
    have h5' : (500 : Int) < (l.length : Int) := by omega
    go_enter Tryd.func11, Tryd.ntmps11
    go_wp2_with fail
    go_ret
    exact ⟨by rw [HF.out]; rfl, Below.refl _ _⟩
  have h5' : ¬ (500 : Int) < (l.length : Int) := by omega
  go_enter Tryd.func11, Tryd.ntmps11
  go_wp2_with fail
  go_loopw [12] (fun vi wr => ∃ k : Nat, k ≤ l.length ∧ vi = .int .i64 k ∧ Hid (∀ j, j < k → folH l j = 0) ∧ Hid (Below w.heap.size w wr)) (fun vi _ => l.length - (intOf vi).toNat)
  case atStart => exact ⟨0, by omega, rfl, Lib.hid (fun j hj => absurd hj (by omega)), Below.refl _ _⟩
  case round =>
    obtain ⟨k, hk, rfl, HS, HB⟩ := hrel
    by_cases hlt : k < l.length
    · obtain ⟨ad, c', e1, hadb, c0, c1, c2, c3, hz⟩ := app_at (Rp.below _ H0.out HB.out) hlt
      cases e1
      obtain ⟨hxi0, _, _, hxp0⟩ := hz
      have F1 : Hid (∀ f, folH l k = f → f ≠ 0 → appsFaultH l = f) := Lib.hid (fun f h h0 => hApps_2 h5 hlt HS.out h h0)
      have G5 : Hid (folH l k = 0 → ∀ j, j < k + 1 → folH l j = 0) := Lib.hid (fun h => firstF_step HS.out h)
      have HHD : Hid (headF l k = if appF l[k] ≠ 0 then appF l[k] else if 0 < k ∧ l[k].at_ < (l.getD (k - 1) default).at_ then 8 else 0) := Lib.hid (by rw [headF, getD_at _ _ hlt])
      have HFO : Hid (folH l k = if headF l k ≠ 0 then headF l k else if l[k].kind = 1 ∧ (stpAt l l[k].id k).2 = true then 7 else if l[k].kind ≠ 1 ∧ (stpAt l l[k].id k).2 = false then 9 else if l[k].kind ≠ 1 ∧ ((stpAt l l[k].id k).1.ended ≠ 0 ∨ ((stpAt l l[k].id k).1.granted = true ∧ l[k].kind ≠ 4)) then 11 else 0) := Lib.hid (by rw [folH, stepF, getD_at _ _ hlt])
      have HPV : Hid (∀ h0 : 0 < k, w.cell? ⟨(ad.add ((k - 1) * 4)).block, (ad.add ((k - 1) * 4)).off + 2, none⟩ = some (.int .i64 (l.getD (k - 1) default).at_) ∧ ad.block < w.heap.size) := Lib.hid (fun h0 => by
        obtain ⟨ad2, c2, e1, hb2, _, _, d2, _, _⟩ := app_at H0.out (show k - 1 < l.length by omega)
        cases e1
        exact ⟨by rw [getD_at l default (show k - 1 < l.length by omega)]; exact d2, hb2⟩)
      have HST : Hid (stpAt (l.take k) l[k].id (l.take k).length = stpAt l l[k].id k) := Lib.hid (stp_part hk)
      have HSL := Lib.hid (Rp.sl_part H0.out (Nat.zero_le k) hk)
      rw [if_neg (by omega), Nat.sub_zero, Nat.zero_mul, Nat.sub_zero, List.drop_zero] at HSL
      replace HSL : Hid ((Rp.sl appRp).ok w (· < w.heap.size) [.slice (some ad) k cc] (l.take k)) := HSL
      generalize (l.getD (k - 1) default).at_ = py at *
      generalize hx : l[k] = x at *
      clear hx
      generalize stpAt l x.id k = st at *
      obtain ⟨s, fd⟩ := st
      have hxi : x.id.length ≤ 9223372036854775807 := hxi0
      have hxp : x.pre.length ≤ 9223372036854775807 := hxp0
      clear hxi0 hxp0
      have hal := (Below.refl wr.heap.size wr).alloc (Nat.le_refl _) (.cells #[.string (bstr x.id), .int .i64 x.kind, .int .i64 x.at_, .string (bstr x.pre)] 42)
      have HB5 := Lib.hid (HB.out.trans (hal.mono HB.out.size))
      have HKX5 := Lib.hid (Blk.new wr 42 [.string (bstr x.id), .int .i64 x.kind, .int .i64 x.at_, .string (bstr x.pre)])
      clear hal
      have x0 : (wr.alloc (.cells #[.string (bstr x.id), .int .i64 x.kind, .int .i64 x.at_, .string (bstr x.pre)] 42)).cell? ⟨wr.heap.size, 0, none⟩ = some (.string (bstr x.id)) := HKX5.out.cell 0
      have x1 : (wr.alloc (.cells #[.string (bstr x.id), .int .i64 x.kind, .int .i64 x.at_, .string (bstr x.pre)] 42)).cell? ⟨wr.heap.size, 1, none⟩ = some (.int .i64 x.kind) := HKX5.out.cell 1
      have x2 : (wr.alloc (.cells #[.string (bstr x.id), .int .i64 x.kind, .int .i64 x.at_, .string (bstr x.pre)] 42)).cell? ⟨wr.heap.size, 2, none⟩ = some (.int .i64 x.at_) := HKX5.out.cell 2
      have x3 : (wr.alloc (.cells #[.string (bstr x.id), .int .i64 x.kind, .int .i64 x.at_, .string (bstr x.pre)] 42)).cell? ⟨wr.heap.size, 3, none⟩ = some (.string (bstr x.pre)) := HKX5.out.cell 3
      go_wp2_with fail
      clear c0 c1 c2 c3
      obtain ⟨xb, hxb⟩ : ∃ xb, xb = wr.heap.size := ⟨_, rfl⟩
      rw [← hxb] at HKX5 x0 x1 x2 x3 ⊢
      clear hxb HB
      generalize wr.alloc (.cells #[.string (bstr x.id), .int .i64 x.kind, .int .i64 x.at_, .string (bstr x.pre)] 42) = w5 at *
      have HA0 : Hid (appF x = if withinB x.kind 1 4 = false then 4 else if isNm x.id = false then 5 else if withinB x.at_ 0 253402300799 = false then 1 else if isPre x.pre = false ∨ (decide (x.kind = 1) != decide (x.pre ≠ [])) = true then 3 else 0) := Lib.hid rfl
      have HBA : Hid (∀ f, appF x = f → f ≠ 0 → appsFaultH l = f) := Lib.hid (fun f h h0 => F1.out f (by rw [HFO.out, HHD.out, if_pos (show appF x ≠ 0 by rw [h]; exact h0), if_pos (show appF x ≠ 0 by rw [h]; exact h0)]; exact h) h0)
      refine (hwithin_any x.kind 1 4 w5).mono ?_
      rintro e w5' ⟨rfl, hw5⟩
      subst hw5
      -- generalize hq1 : withinB x.kind 1 4 = b1 at *
      cases q1 : withinB x.kind 1 4 with
      | false =>
        have HQ := Lib.hid q1
        clear q1
        have HF : Hid (appsFaultH l = 4) := Lib.hid (HBA.out _ (HA0.out.trans (if_pos HQ.out)) (by decide))
        go_wp2_with fail
        go_ret
        exact ⟨by rw [HF.out]; rfl, HB5.out⟩
      | true =>
      have HA1 := Lib.hid (HA0.out.trans (if_neg (by rw [q1]; decide)))
      clear q1 HA0
      go_wp2_with fail
      refine (hName_any x.id w5' hxi).mono ?_
      rintro e w6 ⟨rfl, rfl⟩
      cases q2 : isNm x.id with
      | false =>
        have HQ := Lib.hid q2
        clear q2
        have HF : Hid (appsFaultH l = 5) := Lib.hid (HBA.out _ (HA1.out.trans (if_pos HQ.out)) (by decide))
        go_wp2_with fail
        go_ret
        exact ⟨by rw [HF.out]; rfl, HB5.out⟩
      | true =>
      have HA2 := Lib.hid (HA1.out.trans (if_neg (by rw [q2]; decide)))
      clear q2 HA1
      go_wp2_with fail
      refine (hwithin_any x.at_ 0 253402300799 _).mono ?_
      rintro e w6 ⟨rfl, rfl⟩
      cases q3 : withinB x.at_ 0 253402300799 with
      | false =>
        have HQ := Lib.hid q3
        clear q3
        have HF : Hid (appsFaultH l = 1) := Lib.hid (HBA.out _ (HA2.out.trans (if_pos HQ.out)) (by decide))
        go_wp2_with fail
        go_ret
        exact ⟨by rw [HF.out]; rfl, HB5.out⟩
      | true =>
      have HA3 := Lib.hid (HA2.out.trans (if_neg (by rw [q3]; decide)))
      clear q3 HA2
      go_wp2_with fail
      refine (hPre_any x.pre _ hxp).mono ?_
      rintro e w6 ⟨rfl, rfl⟩
      cases q4 : isPre x.pre with
      | false =>
        have HQ := Lib.hid q4
        clear q4
        have HF : Hid (appsFaultH l = 3) := Lib.hid (HBA.out _ (HA3.out.trans (if_pos (.inl HQ.out))) (by decide))
        go_wp2_with fail
        go_ret
        exact ⟨by rw [HF.out]; rfl, HB5.out⟩
      | true =>
      obtain ⟨w5', hw5'⟩ : ∃ v, v = w6 := ⟨_, rfl⟩
      subst hw5'
      have HA4 : Hid (appF x = if (decide (x.kind = 1) != decide (x.pre ≠ [])) = true then 3 else 0) := Lib.hid (HA3.out.trans (by rw [q4]; simp))
      clear q4 HA3
      have HPE : Hid ((bstr x.pre).toList.isEmpty = decide (x.pre = [])) := Lib.hid (by rw [bstr_toList]; cases x.pre <;> simp)
      by_cases hod : (decide (x.kind = 1) != decide (x.pre ≠ [])) = true
      · have HOD := Lib.hid hod
        have hod2 : Hid ((decide (x.pre = []) != (x.kind != (1 : Int))) = true) := Lib.hid (by
          by_cases a : x.kind = 1 <;> by_cases b : x.pre = [] <;> simp_all)
        clear hod
        by_cases hp : x.pre = []
        · have he : (bstr x.pre).toList.isEmpty = true := by rw [HPE.out]; exact decide_eq_true hp
          have hkk : (x.kind != (1 : Int)) = false := by have h := hod2.out; rw [decide_eq_true hp] at h; simpa using h
          clear hp
          have HF : Hid (appsFaultH l = 3) := Lib.hid (HBA.out _ (HA4.out.trans (if_pos HOD.out)) (by decide))
          go_wp2_with fail
          go_ret
          exact ⟨by rw [HF.out]; rfl, HB5.out⟩
        · have he : (bstr x.pre).toList.isEmpty = false := by rw [HPE.out]; exact decide_eq_false hp
          have hkk : (x.kind != (1 : Int)) = true := by have h := hod2.out; rw [decide_eq_false hp] at h; simpa using h
          clear hp
          have HF : Hid (appsFaultH l = 3) := Lib.hid (HBA.out _ (HA4.out.trans (if_pos HOD.out)) (by decide))
          go_wp2_with fail
          go_ret
          exact ⟨by rw [HF.out]; rfl, HB5.out⟩
      have hod0 : (decide (x.kind = 1) != decide (x.pre ≠ [])) = false := by simpa using hod
      have HA5 := Lib.hid (HA4.out.trans (if_neg hod))
      have hod2 : Hid ((decide (x.pre = []) != (x.kind != (1 : Int))) = false) := Lib.hid (by
        by_cases a : x.kind = 1 <;> by_cases b : x.pre = [] <;> simp_all)
      clear hod hod0 HA4 HBA
      have HHD2 := Lib.hid (HHD.out.trans (if_neg (by rw [HA5.out]; decide)))
      clear HHD
      have HKK : Hid (∃ b : Bool, (bstr x.pre).toList.isEmpty = b ∧ (x.kind != (1 : Int)) = b) := Lib.hid ⟨decide (x.pre = []), HPE.out, by have h := hod2.out; cases a : decide (x.pre = []) <;> cases b : (x.kind != (1 : Int)) <;> simp_all⟩
      obtain ⟨bb, hbb1, hbb2⟩ := HKK.out
      have HBB := Lib.hid hbb2
      clear HKK hod2 HPE
      have hbn : (bb != bb) = false := by simp
      cases bb
      · go_wp2_with fail
        clear hbb1 hbb2 hbn
        by_cases hk0 : 0 < k
        · obtain ⟨pv, pb⟩ := HPV.out hk0
          have HPC : Hid (w5'.cell? ⟨(ad.add ((k - 1) * 4)).block, (ad.add ((k - 1) * 4)).off + 2, none⟩ = some (.int .i64 py)) := Lib.hid ((HB5.out.cell (p := ⟨(ad.add ((k - 1) * 4)).block, _, none⟩) (by rw [add_block]; exact pb)).trans pv)
          clear pv HPV
          have hkk : decide ((k : Int) > 0) = true := decide_eq_true (by omega)
          have hk0' : (0 : Int) < (k : Int) := by omega
          have hkm : ((k : Int) - 1).toNat = k - 1 := by omega
          have hk1' : (0 : Int) ≤ (k : Int) - 1 := by omega
          have hk2' : (k : Int) - 1 < (l.length : Int) := by omega
          have hkw : IntKind.i64.wrap ((k : Int) - 1) = (k : Int) - 1 := IntWalk.i64_in _ (by omega)
          have pc := HPC.out
          go_quiet (fail)
          clear pc
          have HB6 := Lib.hid (below_drewN HB5.out nq)
          have HKX6 := Lib.hid (HKX5.out.same (same_below (below_drewN (Below.refl w5'.heap.size w5') nq)) HKX5.out.lt)
          clear HKX5 HB5 x0 x1 x2 x3 HPC
          generalize w5'.drewN nq = w6 at *
          by_cases hol : x.at_ < py
          · have HOL := Lib.hid hol
            have HH : Hid (headF l k = 8) := Lib.hid (HHD2.out.trans (if_pos ⟨hk0, HOL.out⟩))
            have HF : Hid (appsFaultH l = 8) := Lib.hid (F1.out _ (by rw [HFO.out, HH.out]; rfl) (by decide))
            clear HOL
            go_wp2_with fail
            go_ret
            exact ⟨by rw [HF.out]; rfl, HB6.out⟩
          have HH : Hid (headF l k = 0) := Lib.hid (HHD2.out.trans (if_neg (fun e => hol e.2)))
          go_wp2_with fail
          clear hol hkk hk0' hkm hk1' hk2' hkw hk0 HHD2
          have HFO2 := Lib.hid (HFO.out.trans (if_neg (by rw [HH.out]; decide)))
          clear HFO HH
          have KEEP : Hid (∀ w', Below w6.heap.size w6 w' → (w'.cell? ⟨xb, 0, none⟩ = some (.string (bstr x.id)))) := Lib.hid (fun w' hg => (HKX6.out.same (same_below hg) HKX6.out.lt).cell 0)
          refine wp_region_held_drew (S := fun w' => w'.cell? ⟨xb, 0, none⟩ = some (.string (bstr x.id))) (by kernel_rfl) (KEEP.out _ (Below.drew (Below.refl _ _))) (fun hHeld => ?_)
          obtain ⟨wq, hwq⟩ : ∃ wq, wq = World.drew w6 := ⟨_, rfl⟩
          have HG0 : Hid (Below w6.heap.size w6 wq) := Lib.hid (by rw [hwq]; exact Below.drew (Below.refl _ _))
          rw [← hwq] at hHeld ⊢
          clear hwq
          have hkc : k ≤ cc := by omega
          refine wpAnyH_take (i := 0) (v := ?_) rfl (by kernel_rfl) (by kernel_rfl) (by kernel_rfl) (fun _ _ _ h => h) (Or.inl ⟨by rfl, ?_⟩) (by assumption) ?_
          rotate_left
          · (intro w hSw; (try dsimp only at hSw); go_simp; try with_reducible rfl)
          try simp only [List.getElem_toArray, List.getElem_cons_succ, List.getElem_cons_zero, Act.put, List.setIfInBounds_toArray, List.set_cons_zero, List.set_cons_succ]
          refine wpAnyH_take (i := 1) (v := ?_) rfl (by kernel_rfl) (by kernel_rfl) (by kernel_rfl) (fun _ _ _ h => h) (Or.inl ⟨by rfl, ?_⟩) (by assumption) ?_
          rotate_left
          · (intro w hSw; (try dsimp only at hSw); go_simp; try with_reducible rfl)
          try simp only [List.getElem_toArray, List.getElem_cons_succ, List.getElem_cons_zero, Act.put, List.setIfInBounds_toArray, List.set_cons_zero, List.set_cons_succ]
          refine wpAnyH_take (i := 2) (v := ?_) rfl (by kernel_rfl) (by kernel_rfl) (by kernel_rfl) (fun _ _ _ h => h) (Or.inl ⟨by rfl, ?_⟩) (by assumption) ?_
          rotate_left
          · (intro w hSw; (try dsimp only at hSw); go_simp; (try rw [if_pos hkc]); try with_reducible rfl)
          try simp only [List.getElem_toArray, List.getElem_cons_succ, List.getElem_cons_zero, Act.put, List.setIfInBounds_toArray, List.set_cons_zero, List.set_cons_succ]
          refine wpAnyH_take (i := 3) (v := ?_) rfl (by kernel_rfl) (by kernel_rfl) (by kernel_rfl) (fun _ _ _ h => h) (Or.inl ⟨by rfl, ?_⟩) (by assumption) ?_
          rotate_left
          · (intro w hSw; (try dsimp only at hSw); go_simp; try with_reducible rfl)
          try simp only [List.getElem_toArray, List.getElem_cons_succ, List.getElem_cons_zero, Act.put, List.setIfInBounds_toArray, List.set_cons_zero, List.set_cons_succ]
          refine wpAnyH_take (i := 4) (v := ?_) rfl (by kernel_rfl) (by kernel_rfl) (by kernel_rfl) (fun _ _ _ h => h) (Or.inl ⟨by rfl, ?_⟩) (by assumption) ?_
          rotate_left
          · (intro w hSw; (try dsimp only at hSw); go_simp; try with_reducible rfl)
          try simp only [List.getElem_toArray, List.getElem_cons_succ, List.getElem_cons_zero, Act.put, List.setIfInBounds_toArray, List.set_cons_zero, List.set_cons_succ]
          have HSQ := Lib.hid (Rp.ext _ HSL.out (HB6.out.trans (HG0.out.mono HB6.out.size)))
          refine wpAnyH_ready (rs := [5, 9]) (by kernel_rfl) (by simp) ?_
          refine AllReadyH.cons rfl (fun K hK => ?_) (AllReadyH.cons rfl (fun K hK => ?_) AllReadyH.nil)
          · rw [if_pos (by rfl)]
            simp only [List.getElem_toArray, List.getElem_cons_succ, List.getElem_cons_zero]
            go_simp
            go_at_call 26
            refine (standing_any _ (l.take k) x.id wq (by first | exact HSQ.out | (have h := HSQ.out; simpa [List.length_take, Nat.min_eq_left hk] using h))).mono ?_
            rintro e w7 ⟨rfl, hw⟩
            have HG7 : Hid (Below w6.heap.size w6 w7) := Lib.hid (HG0.out.trans (hw.mono HG0.out.size))
            clear hw
            rw [HST.out]
            try dsimp only [stpCells]
            show K _ w7
            refine hK.out _ _ (KEEP.out _ HG7.out) (fun hHeld => ?_)
            clear hK K
            try simp only [List.getElem_toArray, List.getElem_cons_succ, List.getElem_cons_zero, Act.put, List.setIfInBounds_toArray, List.set_cons_zero, List.set_cons_succ]
            refine wpAnyH_take (i := 6) (v := ?_) rfl (by kernel_rfl) (by kernel_rfl) (by kernel_rfl) (fun _ _ _ h => h) (Or.inl ⟨by rfl, ?_⟩) (by assumption) ?_
            rotate_left
            · (intro w hSw; (try dsimp only at hSw); go_simp; try with_reducible rfl)
            try simp only [List.getElem_toArray, List.getElem_cons_succ, List.getElem_cons_zero, Act.put, List.setIfInBounds_toArray, List.set_cons_zero, List.set_cons_succ]
            refine wpAnyH_take (i := 7) (v := ?_) rfl (by kernel_rfl) (by kernel_rfl) (by kernel_rfl) (fun _ _ _ h => h) (Or.inl ⟨by rfl, ?_⟩) (by assumption) ?_
            rotate_left
            · (intro w hSw; (try dsimp only at hSw); go_simp; try with_reducible rfl)
            try simp only [List.getElem_toArray, List.getElem_cons_succ, List.getElem_cons_zero, Act.put, List.setIfInBounds_toArray, List.set_cons_zero, List.set_cons_succ]
            refine wpAnyH_take (i := 8) (v := ?_) rfl (by kernel_rfl) (by kernel_rfl) (by kernel_rfl) (fun _ _ _ h => h) (Or.inl ⟨by rfl, ?_⟩) (by assumption) ?_
            rotate_left
            · (intro w hSw; (try dsimp only at hSw); go_simp; try with_reducible rfl)
            try simp only [List.getElem_toArray, List.getElem_cons_succ, List.getElem_cons_zero, Act.put, List.setIfInBounds_toArray, List.set_cons_zero, List.set_cons_succ]
            have HGZ : Hid (Below w6.heap.size w6 (w7.alloc (.cells #[.string { data := #[] }, .int .i64 0, .int .i64 0, .string { data := #[] }, .bool false, .int .i64 0, .int .i64 0] 60))) := Lib.hid (HG7.out.trans (((Below.refl w7.heap.size w7).alloc (Nat.le_refl _) (.cells #[.string { data := #[] }, .int .i64 0, .int .i64 0, .string { data := #[] }, .bool false, .int .i64 0, .int .i64 0] 60)).mono HG7.out.size))
            have HG8 : Hid (Below w6.heap.size w6 (w7.alloc (.cells #[.string (bstr s.ask.id), .int .i64 s.ask.kind, .int .i64 s.ask.at_, .string (bstr s.ask.pre), .bool s.granted, .int .i64 s.ended, .int .i64 s.end_] 60))) := Lib.hid (HG7.out.trans (((Below.refl w7.heap.size w7).alloc (Nat.le_refl _) (.cells #[.string (bstr s.ask.id), .int .i64 s.ask.kind, .int .i64 s.ask.at_, .string (bstr s.ask.pre), .bool s.granted, .int .i64 s.ended, .int .i64 s.end_] 60)).mono HG7.out.size))
            refine wpAnyH_ready (rs := [9]) (by kernel_rfl) (by simp) ?_
            refine AllReadyH.cons rfl (fun K hK => ?_) AllReadyH.nil
            rw [if_pos (by rfl)]
            simp only [List.getElem_toArray, List.getElem_cons_succ, List.getElem_cons_zero]
            go_simp
            refine hK.out _ _ (KEEP.out _ HGZ.out) (fun hHeld => ?_)
            clear hK K
            try simp only [List.getElem_toArray, List.getElem_cons_succ, List.getElem_cons_zero, Act.put, List.setIfInBounds_toArray, List.set_cons_zero, List.set_cons_succ]
            refine wpAnyH_ready (rs := [10]) (by kernel_rfl) (by simp) ?_
            refine AllReadyH.cons rfl (fun K hK => ?_) AllReadyH.nil
            rw [if_pos (by rfl)]
            simp only [List.getElem_toArray, List.getElem_cons_succ, List.getElem_cons_zero]
            go_simp
            refine hK.out _ _ (KEEP.out _ HG8.out) (fun hHeld => ?_)
            clear hK K
            try simp only [List.getElem_toArray, List.getElem_cons_succ, List.getElem_cons_zero, Act.put, List.setIfInBounds_toArray, List.set_cons_zero, List.set_cons_succ]
            refine wpAnyH_take (i := 11) (v := ?_) rfl (by kernel_rfl) (by kernel_rfl) (by kernel_rfl) (fun _ _ _ h => h) (Or.inl ⟨by rfl, ?_⟩) (by assumption) ?_
            rotate_left
            · (intro w hSw; (try dsimp only at hSw); go_simp; try with_reducible rfl)
            try simp only [List.getElem_toArray, List.getElem_cons_succ, List.getElem_cons_zero, Act.put, List.setIfInBounds_toArray, List.set_cons_zero, List.set_cons_succ]
            refine wpAnyH_done (by kernel_rfl) ?_ _
            have HKX8 := Lib.hid (HKX6.out.same (same_below HG8.out) HKX6.out.lt)
            have HKS8 := Lib.hid (Blk.new w7 60 [.string (bstr s.ask.id), .int .i64 s.ask.kind, .int .i64 s.ask.at_, .string (bstr s.ask.pre), .bool s.granted, .int .i64 s.ended, .int .i64 s.end_])
            clear hHeld
            have HB8 := Lib.hid (HB6.out.trans (HG8.out.mono HB6.out.size))
            clear HB6 HKX6 KEEP HG8 HGZ HG7 HG0 HSQ HSL
            obtain ⟨sb, hsb⟩ : ∃ sb, sb = w7.heap.size := ⟨_, rfl⟩
            rw [← hsb] at HKS8 ⊢
            clear hsb
            generalize w7.alloc (.cells #[.string (bstr s.ask.id), .int .i64 s.ask.kind, .int .i64 s.ask.at_, .string (bstr s.ask.pre), .bool s.granted, .int .i64 s.ended, .int .i64 s.end_] 60) = w8 at *
            have x1 : w8.cell? ⟨xb, 1, none⟩ = some (.int .i64 x.kind) := HKX8.out.cell 1
            have s4 : w8.cell? ⟨sb, 4, none⟩ = some (.bool s.granted) := HKS8.out.cell 4
            have s5 : w8.cell? ⟨sb, 5, none⟩ = some (.int .i64 s.ended) := HKS8.out.cell 5
            have HK : Hid (x.kind = 1) := Lib.hid (by simpa using HBB.out)
            have hkb : (x.kind == (1 : Int)) = true := by simpa using HBB.out
            have hkc : (x.kind != (1 : Int)) = false := HBB.out
            cases fd with
            | true =>
              have HF : Hid (appsFaultH l = 7) := Lib.hid (F1.out _ (HFO2.out.trans (if_pos ⟨HK.out, rfl⟩)) (by decide))
              clear F1 HFO2 G5
              go_wp2_with fail
              go_ret
              exact ⟨by rw [HF.out]; rfl, HB8.out⟩
            | false =>
              have GN := Lib.hid (G5.out (HFO2.out.trans (by rw [if_neg (fun e => by cases e.2), if_neg (fun e => e.1 HK.out), if_neg (fun e => e.1 HK.out)])))
              clear G5 F1 HFO2
              go_wp2_with fail
              clear x1 s4 s5
              go_roundw
              case rel => first | exact ⟨k + 1, by omega, by go_num, GN, HB8⟩ | (repeat (apply Exists.intro); (refine And.intro ?_ ?_; rotate_left; (repeat' (first | exact rfl | apply And.intro)); exact ⟨k + 1, by omega, by go_num, GN, HB8⟩))
              case measure => simp [intOf]; omega
          · rw [if_pos (by rfl)]
            simp only [List.getElem_toArray, List.getElem_cons_succ, List.getElem_cons_zero]
            go_simp
            have HZL := Lib.hid ((Below.refl wq.heap.size wq).alloc (Nat.le_refl _) (.cells #[.string { data := #[] }, .int .i64 0, .int .i64 0, .string { data := #[] }, .bool false, .int .i64 0, .int .i64 0] 60))
            have HGZ : Hid (Below w6.heap.size w6 (wq.alloc (.cells #[.string { data := #[] }, .int .i64 0, .int .i64 0, .string { data := #[] }, .bool false, .int .i64 0, .int .i64 0] 60))) := Lib.hid (HG0.out.trans (HZL.out.mono HG0.out.size))
            have HKZ := Lib.hid (Blk.new wq 60 [.string { data := #[] }, .int .i64 0, .int .i64 0, .string { data := #[] }, .bool false, .int .i64 0, .int .i64 0])
            have HSQZ := Lib.hid (Rp.ext _ HSQ.out HZL.out)
            have HXQ : Hid (xb < wq.heap.size) := Lib.hid (Nat.lt_of_lt_of_le HKX6.out.lt HG0.out.size)
            have HWQ : Hid (w6.heap.size ≤ wq.heap.size) := Lib.hid HG0.out.size
            refine hK.out _ _ (KEEP.out _ HGZ.out) (fun hHeld => ?_)
            clear hK K HSQ HZL
            try simp only [List.getElem_toArray, List.getElem_cons_succ, List.getElem_cons_zero, Act.put, List.setIfInBounds_toArray, List.set_cons_zero, List.set_cons_succ]
            obtain ⟨sb, hsb⟩ : ∃ sb, sb = wq.heap.size := ⟨_, rfl⟩
            rw [← hsb] at HKZ HXQ HWQ ⊢
            generalize wq.alloc (.cells #[.string { data := #[] }, .int .i64 0, .int .i64 0, .string { data := #[] }, .bool false, .int .i64 0, .int .i64 0] 60) = wz at *
            have HSQ := HSQZ
            clear HSQZ hsb
            refine wpAnyH_ready (rs := [5]) (by kernel_rfl) (by simp) ?_
            refine AllReadyH.cons rfl (fun K hK => ?_) AllReadyH.nil
            rw [if_pos (by rfl)]
            simp only [List.getElem_toArray, List.getElem_cons_succ, List.getElem_cons_zero]
            go_simp
            go_at_call 26
            refine (standing_any _ (l.take k) x.id wz (by first | exact HSQ.out | (have h := HSQ.out; simpa [List.length_take, Nat.min_eq_left hk] using h))).mono ?_
            rintro e w7 ⟨rfl, hw⟩
            have HG7 : Hid (Below w6.heap.size w6 w7) := Lib.hid (HGZ.out.trans (hw.mono HGZ.out.size))
            have HKZ7 := Lib.hid (HKZ.out.same (same_below hw) HKZ.out.lt)
            have HKX7 := Lib.hid (HKX6.out.same (same_below HG7.out) HKX6.out.lt)
            clear hw
            rw [HST.out]
            try dsimp only [stpCells]
            show K _ w7
            refine hK.out _ _ (KEEP.out _ HG7.out) (fun hHeld => ?_)
            clear hK K
            try simp only [List.getElem_toArray, List.getElem_cons_succ, List.getElem_cons_zero, Act.put, List.setIfInBounds_toArray, List.set_cons_zero, List.set_cons_succ]
            refine wpAnyH_take (i := 6) (v := ?_) rfl (by kernel_rfl) (by kernel_rfl) (by kernel_rfl) (fun _ _ _ h => h) (Or.inl ⟨by rfl, ?_⟩) (by assumption) ?_
            rotate_left
            · (intro w hSw; (try dsimp only at hSw); go_simp; try with_reducible rfl)
            try simp only [List.getElem_toArray, List.getElem_cons_succ, List.getElem_cons_zero, Act.put, List.setIfInBounds_toArray, List.set_cons_zero, List.set_cons_succ]
            refine wpAnyH_take (i := 7) (v := ?_) rfl (by kernel_rfl) (by kernel_rfl) (by kernel_rfl) (fun _ _ _ h => h) (Or.inl ⟨by rfl, ?_⟩) (by assumption) ?_
            rotate_left
            · (intro w hSw; (try dsimp only at hSw); go_simp; try with_reducible rfl)
            try simp only [List.getElem_toArray, List.getElem_cons_succ, List.getElem_cons_zero, Act.put, List.setIfInBounds_toArray, List.set_cons_zero, List.set_cons_succ]
            refine wpAnyH_take (i := 8) (v := ?_) rfl (by kernel_rfl) (by kernel_rfl) (by kernel_rfl) (fun _ _ _ h => h) (Or.inl ⟨by rfl, ?_⟩) (by assumption) ?_
            rotate_left
            · (intro w hSw; (try dsimp only at hSw); go_simp; try with_reducible rfl)
            try simp only [List.getElem_toArray, List.getElem_cons_succ, List.getElem_cons_zero, Act.put, List.setIfInBounds_toArray, List.set_cons_zero, List.set_cons_succ]
            have y0 : w7.cell? ⟨sb, 0, none⟩ = some (.string { data := #[] }) := HKZ7.out.cell 0
            have z0 := HKZ7.out.frozen 0
            have y1 : w7.cell? ⟨sb, 1, none⟩ = some (.int .i64 0) := HKZ7.out.cell 1
            have z1 := HKZ7.out.frozen 1
            have y2 : w7.cell? ⟨sb, 2, none⟩ = some (.int .i64 0) := HKZ7.out.cell 2
            have z2 := HKZ7.out.frozen 2
            have y3 : w7.cell? ⟨sb, 3, none⟩ = some (.string { data := #[] }) := HKZ7.out.cell 3
            have z3 := HKZ7.out.frozen 3
            have y4 : w7.cell? ⟨sb, 4, none⟩ = some (.bool false) := HKZ7.out.cell 4
            have z4 := HKZ7.out.frozen 4
            have y5 : w7.cell? ⟨sb, 5, none⟩ = some (.int .i64 0) := HKZ7.out.cell 5
            have z5 := HKZ7.out.frozen 5
            have y6 : w7.cell? ⟨sb, 6, none⟩ = some (.int .i64 0) := HKZ7.out.cell 6
            have z6 := HKZ7.out.frozen 6
            have HPUT : Hid (_ ∧ _ ∧ Below w6.heap.size w6 (((((((w7.setCell ⟨sb, 0, none⟩ (.string (bstr s.ask.id))).setCell ⟨sb, 1, none⟩ (.int .i64 s.ask.kind)).setCell ⟨sb, 2, none⟩ (.int .i64 s.ask.at_)).setCell ⟨sb, 3, none⟩ (.string (bstr s.ask.pre))).setCell ⟨sb, 4, none⟩ (.bool s.granted)).setCell ⟨sb, 5, none⟩ (.int .i64 s.ended)).setCell ⟨sb, 6, none⟩ (.int .i64 s.end_))) := Lib.hid (put7 (v0 := .string (bstr s.ask.id)) (v1 := .int .i64 s.ask.kind) (v2 := .int .i64 s.ask.at_) (v3 := .string (bstr s.ask.pre)) (v4 := .bool s.granted) (v5 := .int .i64 s.ended) (v6 := .int .i64 s.end_) HKZ7.out HKX7.out (by have := HXQ.out; omega) HWQ.out HG7.out)
            refine wpAnyH_ready (rs := [10]) (by kernel_rfl) (by simp) ?_
            refine AllReadyH.cons rfl (fun K hK => ?_) AllReadyH.nil
            rw [if_pos (by rfl)]
            simp only [List.getElem_toArray, List.getElem_cons_succ, List.getElem_cons_zero]
            go_simp
            refine hK.out _ _ (KEEP.out _ HPUT.out.2.2) (fun hHeld => ?_)
            clear hK K
            try simp only [List.getElem_toArray, List.getElem_cons_succ, List.getElem_cons_zero, Act.put, List.setIfInBounds_toArray, List.set_cons_zero, List.set_cons_succ]
            refine wpAnyH_take (i := 11) (v := ?_) rfl (by kernel_rfl) (by kernel_rfl) (by kernel_rfl) (fun _ _ _ h => h) (Or.inl ⟨by rfl, ?_⟩) (by assumption) ?_
            rotate_left
            · (intro w hSw; (try dsimp only at hSw); go_simp; try with_reducible rfl)
            try simp only [List.getElem_toArray, List.getElem_cons_succ, List.getElem_cons_zero, Act.put, List.setIfInBounds_toArray, List.set_cons_zero, List.set_cons_succ]
            refine wpAnyH_done (by kernel_rfl) ?_ _
            clear y0 z0 y1 z1 y2 z2 y3 z3 y4 z4 y5 z5 y6 z6
            have HKS8 := Lib.hid HPUT.out.1
            have HKX8 := Lib.hid HPUT.out.2.1
            have HG8 := Lib.hid HPUT.out.2.2
            clear HPUT HKZ HKZ7 HKX7 HXQ HWQ
            clear hHeld
            have HB8 := Lib.hid (HB6.out.trans (HG8.out.mono HB6.out.size))
            clear HB6 HKX6 KEEP HG8 HGZ HG7 HG0 HSQ HSL
            generalize (((((((w7.setCell ⟨sb, 0, none⟩ (.string (bstr s.ask.id))).setCell ⟨sb, 1, none⟩ (.int .i64 s.ask.kind)).setCell ⟨sb, 2, none⟩ (.int .i64 s.ask.at_)).setCell ⟨sb, 3, none⟩ (.string (bstr s.ask.pre))).setCell ⟨sb, 4, none⟩ (.bool s.granted)).setCell ⟨sb, 5, none⟩ (.int .i64 s.ended)).setCell ⟨sb, 6, none⟩ (.int .i64 s.end_)) = w8 at *
            have x1 : w8.cell? ⟨xb, 1, none⟩ = some (.int .i64 x.kind) := HKX8.out.cell 1
            have s4 : w8.cell? ⟨sb, 4, none⟩ = some (.bool s.granted) := HKS8.out.cell 4
            have s5 : w8.cell? ⟨sb, 5, none⟩ = some (.int .i64 s.ended) := HKS8.out.cell 5
            have HK : Hid (x.kind = 1) := Lib.hid (by simpa using HBB.out)
            have hkb : (x.kind == (1 : Int)) = true := by simpa using HBB.out
            have hkc : (x.kind != (1 : Int)) = false := HBB.out
            cases fd with
            | true =>
              have HF : Hid (appsFaultH l = 7) := Lib.hid (F1.out _ (HFO2.out.trans (if_pos ⟨HK.out, rfl⟩)) (by decide))
              clear F1 HFO2 G5
              go_wp2_with fail
              go_ret
              exact ⟨by rw [HF.out]; rfl, HB8.out⟩
            | false =>
              have GN := Lib.hid (G5.out (HFO2.out.trans (by rw [if_neg (fun e => by cases e.2), if_neg (fun e => e.1 HK.out), if_neg (fun e => e.1 HK.out)])))
              clear G5 F1 HFO2
              go_wp2_with fail
              clear x1 s4 s5
              go_roundw
              case rel => first | exact ⟨k + 1, by omega, by go_num, GN, HB8⟩ | (repeat (apply Exists.intro); (refine And.intro ?_ ?_; rotate_left; (repeat' (first | exact rfl | apply And.intro)); exact ⟨k + 1, by omega, by go_num, GN, HB8⟩))
              case measure => simp [intOf]; omega
        · have HH : Hid (headF l k = 0) := Lib.hid (HHD2.out.trans (if_neg (fun e => hk0 e.1)))
          have hkk : decide ((k : Int) > 0) = false := decide_eq_false (by omega)
          have hk0' : ¬ (0 : Int) < (k : Int) := by omega
          go_quiet (fail)
          have HB6 := Lib.hid (below_drewN HB5.out nq)
          have HKX6 := Lib.hid (HKX5.out.same (same_below (below_drewN (Below.refl w5'.heap.size w5') nq)) HKX5.out.lt)
          clear HKX5 HB5 x0 x1 x2 x3
          generalize w5'.drewN nq = w6 at *
          go_wp2_with fail
          clear hkk hk0' hk0 HHD2 HPV
          have HFO2 := Lib.hid (HFO.out.trans (if_neg (by rw [HH.out]; decide)))
          clear HFO HH
          have KEEP : Hid (∀ w', Below w6.heap.size w6 w' → (w'.cell? ⟨xb, 0, none⟩ = some (.string (bstr x.id)))) := Lib.hid (fun w' hg => (HKX6.out.same (same_below hg) HKX6.out.lt).cell 0)
          refine wp_region_held_drew (S := fun w' => w'.cell? ⟨xb, 0, none⟩ = some (.string (bstr x.id))) (by kernel_rfl) (KEEP.out _ (Below.drew (Below.refl _ _))) (fun hHeld => ?_)
          obtain ⟨wq, hwq⟩ : ∃ wq, wq = World.drew w6 := ⟨_, rfl⟩
          have HG0 : Hid (Below w6.heap.size w6 wq) := Lib.hid (by rw [hwq]; exact Below.drew (Below.refl _ _))
          rw [← hwq] at hHeld ⊢
          clear hwq
          have hkc : k ≤ cc := by omega
          refine wpAnyH_take (i := 0) (v := ?_) rfl (by kernel_rfl) (by kernel_rfl) (by kernel_rfl) (fun _ _ _ h => h) (Or.inl ⟨by rfl, ?_⟩) (by assumption) ?_
          rotate_left
          · (intro w hSw; (try dsimp only at hSw); go_simp; try with_reducible rfl)
          try simp only [List.getElem_toArray, List.getElem_cons_succ, List.getElem_cons_zero, Act.put, List.setIfInBounds_toArray, List.set_cons_zero, List.set_cons_succ]
          refine wpAnyH_take (i := 1) (v := ?_) rfl (by kernel_rfl) (by kernel_rfl) (by kernel_rfl) (fun _ _ _ h => h) (Or.inl ⟨by rfl, ?_⟩) (by assumption) ?_
          rotate_left
          · (intro w hSw; (try dsimp only at hSw); go_simp; try with_reducible rfl)
          try simp only [List.getElem_toArray, List.getElem_cons_succ, List.getElem_cons_zero, Act.put, List.setIfInBounds_toArray, List.set_cons_zero, List.set_cons_succ]
          refine wpAnyH_take (i := 2) (v := ?_) rfl (by kernel_rfl) (by kernel_rfl) (by kernel_rfl) (fun _ _ _ h => h) (Or.inl ⟨by rfl, ?_⟩) (by assumption) ?_
          rotate_left
          · (intro w hSw; (try dsimp only at hSw); go_simp; (try rw [if_pos hkc]); try with_reducible rfl)
          try simp only [List.getElem_toArray, List.getElem_cons_succ, List.getElem_cons_zero, Act.put, List.setIfInBounds_toArray, List.set_cons_zero, List.set_cons_succ]
          refine wpAnyH_take (i := 3) (v := ?_) rfl (by kernel_rfl) (by kernel_rfl) (by kernel_rfl) (fun _ _ _ h => h) (Or.inl ⟨by rfl, ?_⟩) (by assumption) ?_
          rotate_left
          · (intro w hSw; (try dsimp only at hSw); go_simp; try with_reducible rfl)
          try simp only [List.getElem_toArray, List.getElem_cons_succ, List.getElem_cons_zero, Act.put, List.setIfInBounds_toArray, List.set_cons_zero, List.set_cons_succ]
          refine wpAnyH_take (i := 4) (v := ?_) rfl (by kernel_rfl) (by kernel_rfl) (by kernel_rfl) (fun _ _ _ h => h) (Or.inl ⟨by rfl, ?_⟩) (by assumption) ?_
          rotate_left
          · (intro w hSw; (try dsimp only at hSw); go_simp; try with_reducible rfl)
          try simp only [List.getElem_toArray, List.getElem_cons_succ, List.getElem_cons_zero, Act.put, List.setIfInBounds_toArray, List.set_cons_zero, List.set_cons_succ]
          have HSQ := Lib.hid (Rp.ext _ HSL.out (HB6.out.trans (HG0.out.mono HB6.out.size)))
          refine wpAnyH_ready (rs := [5, 9]) (by kernel_rfl) (by simp) ?_
          refine AllReadyH.cons rfl (fun K hK => ?_) (AllReadyH.cons rfl (fun K hK => ?_) AllReadyH.nil)
          · rw [if_pos (by rfl)]
            simp only [List.getElem_toArray, List.getElem_cons_succ, List.getElem_cons_zero]
            go_simp
            go_at_call 26
            refine (standing_any _ (l.take k) x.id wq (by first | exact HSQ.out | (have h := HSQ.out; simpa [List.length_take, Nat.min_eq_left hk] using h))).mono ?_
            rintro e w7 ⟨rfl, hw⟩
            have HG7 : Hid (Below w6.heap.size w6 w7) := Lib.hid (HG0.out.trans (hw.mono HG0.out.size))
            clear hw
            rw [HST.out]
            try dsimp only [stpCells]
            show K _ w7
            refine hK.out _ _ (KEEP.out _ HG7.out) (fun hHeld => ?_)
            clear hK K
            try simp only [List.getElem_toArray, List.getElem_cons_succ, List.getElem_cons_zero, Act.put, List.setIfInBounds_toArray, List.set_cons_zero, List.set_cons_succ]
            refine wpAnyH_take (i := 6) (v := ?_) rfl (by kernel_rfl) (by kernel_rfl) (by kernel_rfl) (fun _ _ _ h => h) (Or.inl ⟨by rfl, ?_⟩) (by assumption) ?_
            rotate_left
            · (intro w hSw; (try dsimp only at hSw); go_simp; try with_reducible rfl)
            try simp only [List.getElem_toArray, List.getElem_cons_succ, List.getElem_cons_zero, Act.put, List.setIfInBounds_toArray, List.set_cons_zero, List.set_cons_succ]
            refine wpAnyH_take (i := 7) (v := ?_) rfl (by kernel_rfl) (by kernel_rfl) (by kernel_rfl) (fun _ _ _ h => h) (Or.inl ⟨by rfl, ?_⟩) (by assumption) ?_
            rotate_left
            · (intro w hSw; (try dsimp only at hSw); go_simp; try with_reducible rfl)
            try simp only [List.getElem_toArray, List.getElem_cons_succ, List.getElem_cons_zero, Act.put, List.setIfInBounds_toArray, List.set_cons_zero, List.set_cons_succ]
            refine wpAnyH_take (i := 8) (v := ?_) rfl (by kernel_rfl) (by kernel_rfl) (by kernel_rfl) (fun _ _ _ h => h) (Or.inl ⟨by rfl, ?_⟩) (by assumption) ?_
            rotate_left
            · (intro w hSw; (try dsimp only at hSw); go_simp; try with_reducible rfl)
            try simp only [List.getElem_toArray, List.getElem_cons_succ, List.getElem_cons_zero, Act.put, List.setIfInBounds_toArray, List.set_cons_zero, List.set_cons_succ]
            have HGZ : Hid (Below w6.heap.size w6 (w7.alloc (.cells #[.string { data := #[] }, .int .i64 0, .int .i64 0, .string { data := #[] }, .bool false, .int .i64 0, .int .i64 0] 60))) := Lib.hid (HG7.out.trans (((Below.refl w7.heap.size w7).alloc (Nat.le_refl _) (.cells #[.string { data := #[] }, .int .i64 0, .int .i64 0, .string { data := #[] }, .bool false, .int .i64 0, .int .i64 0] 60)).mono HG7.out.size))
            have HG8 : Hid (Below w6.heap.size w6 (w7.alloc (.cells #[.string (bstr s.ask.id), .int .i64 s.ask.kind, .int .i64 s.ask.at_, .string (bstr s.ask.pre), .bool s.granted, .int .i64 s.ended, .int .i64 s.end_] 60))) := Lib.hid (HG7.out.trans (((Below.refl w7.heap.size w7).alloc (Nat.le_refl _) (.cells #[.string (bstr s.ask.id), .int .i64 s.ask.kind, .int .i64 s.ask.at_, .string (bstr s.ask.pre), .bool s.granted, .int .i64 s.ended, .int .i64 s.end_] 60)).mono HG7.out.size))
            refine wpAnyH_ready (rs := [9]) (by kernel_rfl) (by simp) ?_
            refine AllReadyH.cons rfl (fun K hK => ?_) AllReadyH.nil
            rw [if_pos (by rfl)]
            simp only [List.getElem_toArray, List.getElem_cons_succ, List.getElem_cons_zero]
            go_simp
            refine hK.out _ _ (KEEP.out _ HGZ.out) (fun hHeld => ?_)
            clear hK K
            try simp only [List.getElem_toArray, List.getElem_cons_succ, List.getElem_cons_zero, Act.put, List.setIfInBounds_toArray, List.set_cons_zero, List.set_cons_succ]
            refine wpAnyH_ready (rs := [10]) (by kernel_rfl) (by simp) ?_
            refine AllReadyH.cons rfl (fun K hK => ?_) AllReadyH.nil
            rw [if_pos (by rfl)]
            simp only [List.getElem_toArray, List.getElem_cons_succ, List.getElem_cons_zero]
            go_simp
            refine hK.out _ _ (KEEP.out _ HG8.out) (fun hHeld => ?_)
            clear hK K
            try simp only [List.getElem_toArray, List.getElem_cons_succ, List.getElem_cons_zero, Act.put, List.setIfInBounds_toArray, List.set_cons_zero, List.set_cons_succ]
            refine wpAnyH_take (i := 11) (v := ?_) rfl (by kernel_rfl) (by kernel_rfl) (by kernel_rfl) (fun _ _ _ h => h) (Or.inl ⟨by rfl, ?_⟩) (by assumption) ?_
            rotate_left
            · (intro w hSw; (try dsimp only at hSw); go_simp; try with_reducible rfl)
            try simp only [List.getElem_toArray, List.getElem_cons_succ, List.getElem_cons_zero, Act.put, List.setIfInBounds_toArray, List.set_cons_zero, List.set_cons_succ]
            refine wpAnyH_done (by kernel_rfl) ?_ _
            have HKX8 := Lib.hid (HKX6.out.same (same_below HG8.out) HKX6.out.lt)
            have HKS8 := Lib.hid (Blk.new w7 60 [.string (bstr s.ask.id), .int .i64 s.ask.kind, .int .i64 s.ask.at_, .string (bstr s.ask.pre), .bool s.granted, .int .i64 s.ended, .int .i64 s.end_])
            clear hHeld
            have HB8 := Lib.hid (HB6.out.trans (HG8.out.mono HB6.out.size))
            clear HB6 HKX6 KEEP HG8 HGZ HG7 HG0 HSQ HSL
            obtain ⟨sb, hsb⟩ : ∃ sb, sb = w7.heap.size := ⟨_, rfl⟩
            rw [← hsb] at HKS8 ⊢
            clear hsb
            generalize w7.alloc (.cells #[.string (bstr s.ask.id), .int .i64 s.ask.kind, .int .i64 s.ask.at_, .string (bstr s.ask.pre), .bool s.granted, .int .i64 s.ended, .int .i64 s.end_] 60) = w8 at *
            have x1 : w8.cell? ⟨xb, 1, none⟩ = some (.int .i64 x.kind) := HKX8.out.cell 1
            have s4 : w8.cell? ⟨sb, 4, none⟩ = some (.bool s.granted) := HKS8.out.cell 4
            have s5 : w8.cell? ⟨sb, 5, none⟩ = some (.int .i64 s.ended) := HKS8.out.cell 5
            have HK : Hid (x.kind = 1) := Lib.hid (by simpa using HBB.out)
            have hkb : (x.kind == (1 : Int)) = true := by simpa using HBB.out
            have hkc : (x.kind != (1 : Int)) = false := HBB.out
            cases fd with
            | true =>
              have HF : Hid (appsFaultH l = 7) := Lib.hid (F1.out _ (HFO2.out.trans (if_pos ⟨HK.out, rfl⟩)) (by decide))
              clear F1 HFO2 G5
              go_wp2_with fail
              go_ret
              exact ⟨by rw [HF.out]; rfl, HB8.out⟩
            | false =>
              have GN := Lib.hid (G5.out (HFO2.out.trans (by rw [if_neg (fun e => by cases e.2), if_neg (fun e => e.1 HK.out), if_neg (fun e => e.1 HK.out)])))
              clear G5 F1 HFO2
              go_wp2_with fail
              clear x1 s4 s5
              go_roundw
              case rel => first | exact ⟨k + 1, by omega, by go_num, GN, HB8⟩ | (repeat (apply Exists.intro); (refine And.intro ?_ ?_; rotate_left; (repeat' (first | exact rfl | apply And.intro)); exact ⟨k + 1, by omega, by go_num, GN, HB8⟩))
              case measure => simp [intOf]; omega
          · rw [if_pos (by rfl)]
            simp only [List.getElem_toArray, List.getElem_cons_succ, List.getElem_cons_zero]
            go_simp
            have HZL := Lib.hid ((Below.refl wq.heap.size wq).alloc (Nat.le_refl _) (.cells #[.string { data := #[] }, .int .i64 0, .int .i64 0, .string { data := #[] }, .bool false, .int .i64 0, .int .i64 0] 60))
            have HGZ : Hid (Below w6.heap.size w6 (wq.alloc (.cells #[.string { data := #[] }, .int .i64 0, .int .i64 0, .string { data := #[] }, .bool false, .int .i64 0, .int .i64 0] 60))) := Lib.hid (HG0.out.trans (HZL.out.mono HG0.out.size))
            have HKZ := Lib.hid (Blk.new wq 60 [.string { data := #[] }, .int .i64 0, .int .i64 0, .string { data := #[] }, .bool false, .int .i64 0, .int .i64 0])
            have HSQZ := Lib.hid (Rp.ext _ HSQ.out HZL.out)
            have HXQ : Hid (xb < wq.heap.size) := Lib.hid (Nat.lt_of_lt_of_le HKX6.out.lt HG0.out.size)
            have HWQ : Hid (w6.heap.size ≤ wq.heap.size) := Lib.hid HG0.out.size
            refine hK.out _ _ (KEEP.out _ HGZ.out) (fun hHeld => ?_)
            clear hK K HSQ HZL
            try simp only [List.getElem_toArray, List.getElem_cons_succ, List.getElem_cons_zero, Act.put, List.setIfInBounds_toArray, List.set_cons_zero, List.set_cons_succ]
            obtain ⟨sb, hsb⟩ : ∃ sb, sb = wq.heap.size := ⟨_, rfl⟩
            rw [← hsb] at HKZ HXQ HWQ ⊢
            generalize wq.alloc (.cells #[.string { data := #[] }, .int .i64 0, .int .i64 0, .string { data := #[] }, .bool false, .int .i64 0, .int .i64 0] 60) = wz at *
            have HSQ := HSQZ
            clear HSQZ hsb
            refine wpAnyH_ready (rs := [5]) (by kernel_rfl) (by simp) ?_
            refine AllReadyH.cons rfl (fun K hK => ?_) AllReadyH.nil
            rw [if_pos (by rfl)]
            simp only [List.getElem_toArray, List.getElem_cons_succ, List.getElem_cons_zero]
            go_simp
            go_at_call 26
            refine (standing_any _ (l.take k) x.id wz (by first | exact HSQ.out | (have h := HSQ.out; simpa [List.length_take, Nat.min_eq_left hk] using h))).mono ?_
            rintro e w7 ⟨rfl, hw⟩
            have HG7 : Hid (Below w6.heap.size w6 w7) := Lib.hid (HGZ.out.trans (hw.mono HGZ.out.size))
            have HKZ7 := Lib.hid (HKZ.out.same (same_below hw) HKZ.out.lt)
            have HKX7 := Lib.hid (HKX6.out.same (same_below HG7.out) HKX6.out.lt)
            clear hw
            rw [HST.out]
            try dsimp only [stpCells]
            show K _ w7
            refine hK.out _ _ (KEEP.out _ HG7.out) (fun hHeld => ?_)
            clear hK K
            try simp only [List.getElem_toArray, List.getElem_cons_succ, List.getElem_cons_zero, Act.put, List.setIfInBounds_toArray, List.set_cons_zero, List.set_cons_succ]
            refine wpAnyH_take (i := 6) (v := ?_) rfl (by kernel_rfl) (by kernel_rfl) (by kernel_rfl) (fun _ _ _ h => h) (Or.inl ⟨by rfl, ?_⟩) (by assumption) ?_
            rotate_left
            · (intro w hSw; (try dsimp only at hSw); go_simp; try with_reducible rfl)
            try simp only [List.getElem_toArray, List.getElem_cons_succ, List.getElem_cons_zero, Act.put, List.setIfInBounds_toArray, List.set_cons_zero, List.set_cons_succ]
            refine wpAnyH_take (i := 7) (v := ?_) rfl (by kernel_rfl) (by kernel_rfl) (by kernel_rfl) (fun _ _ _ h => h) (Or.inl ⟨by rfl, ?_⟩) (by assumption) ?_
            rotate_left
            · (intro w hSw; (try dsimp only at hSw); go_simp; try with_reducible rfl)
            try simp only [List.getElem_toArray, List.getElem_cons_succ, List.getElem_cons_zero, Act.put, List.setIfInBounds_toArray, List.set_cons_zero, List.set_cons_succ]
            refine wpAnyH_take (i := 8) (v := ?_) rfl (by kernel_rfl) (by kernel_rfl) (by kernel_rfl) (fun _ _ _ h => h) (Or.inl ⟨by rfl, ?_⟩) (by assumption) ?_
            rotate_left
            · (intro w hSw; (try dsimp only at hSw); go_simp; try with_reducible rfl)
            try simp only [List.getElem_toArray, List.getElem_cons_succ, List.getElem_cons_zero, Act.put, List.setIfInBounds_toArray, List.set_cons_zero, List.set_cons_succ]
            have y0 : w7.cell? ⟨sb, 0, none⟩ = some (.string { data := #[] }) := HKZ7.out.cell 0
            have z0 := HKZ7.out.frozen 0
            have y1 : w7.cell? ⟨sb, 1, none⟩ = some (.int .i64 0) := HKZ7.out.cell 1
            have z1 := HKZ7.out.frozen 1
            have y2 : w7.cell? ⟨sb, 2, none⟩ = some (.int .i64 0) := HKZ7.out.cell 2
            have z2 := HKZ7.out.frozen 2
            have y3 : w7.cell? ⟨sb, 3, none⟩ = some (.string { data := #[] }) := HKZ7.out.cell 3
            have z3 := HKZ7.out.frozen 3
            have y4 : w7.cell? ⟨sb, 4, none⟩ = some (.bool false) := HKZ7.out.cell 4
            have z4 := HKZ7.out.frozen 4
            have y5 : w7.cell? ⟨sb, 5, none⟩ = some (.int .i64 0) := HKZ7.out.cell 5
            have z5 := HKZ7.out.frozen 5
            have y6 : w7.cell? ⟨sb, 6, none⟩ = some (.int .i64 0) := HKZ7.out.cell 6
            have z6 := HKZ7.out.frozen 6
            have HPUT : Hid (_ ∧ _ ∧ Below w6.heap.size w6 (((((((w7.setCell ⟨sb, 0, none⟩ (.string (bstr s.ask.id))).setCell ⟨sb, 1, none⟩ (.int .i64 s.ask.kind)).setCell ⟨sb, 2, none⟩ (.int .i64 s.ask.at_)).setCell ⟨sb, 3, none⟩ (.string (bstr s.ask.pre))).setCell ⟨sb, 4, none⟩ (.bool s.granted)).setCell ⟨sb, 5, none⟩ (.int .i64 s.ended)).setCell ⟨sb, 6, none⟩ (.int .i64 s.end_))) := Lib.hid (put7 (v0 := .string (bstr s.ask.id)) (v1 := .int .i64 s.ask.kind) (v2 := .int .i64 s.ask.at_) (v3 := .string (bstr s.ask.pre)) (v4 := .bool s.granted) (v5 := .int .i64 s.ended) (v6 := .int .i64 s.end_) HKZ7.out HKX7.out (by have := HXQ.out; omega) HWQ.out HG7.out)
            refine wpAnyH_ready (rs := [10]) (by kernel_rfl) (by simp) ?_
            refine AllReadyH.cons rfl (fun K hK => ?_) AllReadyH.nil
            rw [if_pos (by rfl)]
            simp only [List.getElem_toArray, List.getElem_cons_succ, List.getElem_cons_zero]
            go_simp
            refine hK.out _ _ (KEEP.out _ HPUT.out.2.2) (fun hHeld => ?_)
            clear hK K
            try simp only [List.getElem_toArray, List.getElem_cons_succ, List.getElem_cons_zero, Act.put, List.setIfInBounds_toArray, List.set_cons_zero, List.set_cons_succ]
            refine wpAnyH_take (i := 11) (v := ?_) rfl (by kernel_rfl) (by kernel_rfl) (by kernel_rfl) (fun _ _ _ h => h) (Or.inl ⟨by rfl, ?_⟩) (by assumption) ?_
            rotate_left
            · (intro w hSw; (try dsimp only at hSw); go_simp; try with_reducible rfl)
            try simp only [List.getElem_toArray, List.getElem_cons_succ, List.getElem_cons_zero, Act.put, List.setIfInBounds_toArray, List.set_cons_zero, List.set_cons_succ]
            refine wpAnyH_done (by kernel_rfl) ?_ _
            clear y0 z0 y1 z1 y2 z2 y3 z3 y4 z4 y5 z5 y6 z6
            have HKS8 := Lib.hid HPUT.out.1
            have HKX8 := Lib.hid HPUT.out.2.1
            have HG8 := Lib.hid HPUT.out.2.2
            clear HPUT HKZ HKZ7 HKX7 HXQ HWQ
            clear hHeld
            have HB8 := Lib.hid (HB6.out.trans (HG8.out.mono HB6.out.size))
            clear HB6 HKX6 KEEP HG8 HGZ HG7 HG0 HSQ HSL
            generalize (((((((w7.setCell ⟨sb, 0, none⟩ (.string (bstr s.ask.id))).setCell ⟨sb, 1, none⟩ (.int .i64 s.ask.kind)).setCell ⟨sb, 2, none⟩ (.int .i64 s.ask.at_)).setCell ⟨sb, 3, none⟩ (.string (bstr s.ask.pre))).setCell ⟨sb, 4, none⟩ (.bool s.granted)).setCell ⟨sb, 5, none⟩ (.int .i64 s.ended)).setCell ⟨sb, 6, none⟩ (.int .i64 s.end_)) = w8 at *
            have x1 : w8.cell? ⟨xb, 1, none⟩ = some (.int .i64 x.kind) := HKX8.out.cell 1
            have s4 : w8.cell? ⟨sb, 4, none⟩ = some (.bool s.granted) := HKS8.out.cell 4
            have s5 : w8.cell? ⟨sb, 5, none⟩ = some (.int .i64 s.ended) := HKS8.out.cell 5
            have HK : Hid (x.kind = 1) := Lib.hid (by simpa using HBB.out)
            have hkb : (x.kind == (1 : Int)) = true := by simpa using HBB.out
            have hkc : (x.kind != (1 : Int)) = false := HBB.out
            cases fd with
            | true =>
              have HF : Hid (appsFaultH l = 7) := Lib.hid (F1.out _ (HFO2.out.trans (if_pos ⟨HK.out, rfl⟩)) (by decide))
              clear F1 HFO2 G5
              go_wp2_with fail
              go_ret
              exact ⟨by rw [HF.out]; rfl, HB8.out⟩
            | false =>
              have GN := Lib.hid (G5.out (HFO2.out.trans (by rw [if_neg (fun e => by cases e.2), if_neg (fun e => e.1 HK.out), if_neg (fun e => e.1 HK.out)])))
              clear G5 F1 HFO2
              go_wp2_with fail
              clear x1 s4 s5
              go_roundw
              case rel => first | exact ⟨k + 1, by omega, by go_num, GN, HB8⟩ | (repeat (apply Exists.intro); (refine And.intro ?_ ?_; rotate_left; (repeat' (first | exact rfl | apply And.intro)); exact ⟨k + 1, by omega, by go_num, GN, HB8⟩))
              case measure => simp [intOf]; omega
      · go_wp2_with fail
        clear hbb1 hbb2 hbn
        by_cases hk0 : 0 < k
        · obtain ⟨pv, pb⟩ := HPV.out hk0
          have HPC : Hid (w5'.cell? ⟨(ad.add ((k - 1) * 4)).block, (ad.add ((k - 1) * 4)).off + 2, none⟩ = some (.int .i64 py)) := Lib.hid ((HB5.out.cell (p := ⟨(ad.add ((k - 1) * 4)).block, _, none⟩) (by rw [add_block]; exact pb)).trans pv)
          clear pv HPV
          have hkk : decide ((k : Int) > 0) = true := decide_eq_true (by omega)
          have hk0' : (0 : Int) < (k : Int) := by omega
          have hkm : ((k : Int) - 1).toNat = k - 1 := by omega
          have hk1' : (0 : Int) ≤ (k : Int) - 1 := by omega
          have hk2' : (k : Int) - 1 < (l.length : Int) := by omega
          have hkw : IntKind.i64.wrap ((k : Int) - 1) = (k : Int) - 1 := IntWalk.i64_in _ (by omega)
          have pc := HPC.out
          go_quiet (fail)
          clear pc
          have HB6 := Lib.hid (below_drewN HB5.out nq)
          have HKX6 := Lib.hid (HKX5.out.same (same_below (below_drewN (Below.refl w5'.heap.size w5') nq)) HKX5.out.lt)
          clear HKX5 HB5 x0 x1 x2 x3 HPC
          generalize w5'.drewN nq = w6 at *
          by_cases hol : x.at_ < py
          · have HOL := Lib.hid hol
            have HH : Hid (headF l k = 8) := Lib.hid (HHD2.out.trans (if_pos ⟨hk0, HOL.out⟩))
            have HF : Hid (appsFaultH l = 8) := Lib.hid (F1.out _ (by rw [HFO.out, HH.out]; rfl) (by decide))
            clear HOL
            go_wp2_with fail
            go_ret
            exact ⟨by rw [HF.out]; rfl, HB6.out⟩
          have HH : Hid (headF l k = 0) := Lib.hid (HHD2.out.trans (if_neg (fun e => hol e.2)))
          go_wp2_with fail
          clear hol hkk hk0' hkm hk1' hk2' hkw hk0 HHD2
          have HFO2 := Lib.hid (HFO.out.trans (if_neg (by rw [HH.out]; decide)))
          clear HFO HH
          have KEEP : Hid (∀ w', Below w6.heap.size w6 w' → (w'.cell? ⟨xb, 0, none⟩ = some (.string (bstr x.id)))) := Lib.hid (fun w' hg => (HKX6.out.same (same_below hg) HKX6.out.lt).cell 0)
          refine wp_region_held_drew (S := fun w' => w'.cell? ⟨xb, 0, none⟩ = some (.string (bstr x.id))) (by kernel_rfl) (KEEP.out _ (Below.drew (Below.refl _ _))) (fun hHeld => ?_)
          obtain ⟨wq, hwq⟩ : ∃ wq, wq = World.drew w6 := ⟨_, rfl⟩
          have HG0 : Hid (Below w6.heap.size w6 wq) := Lib.hid (by rw [hwq]; exact Below.drew (Below.refl _ _))
          rw [← hwq] at hHeld ⊢
          clear hwq
          have hkc : k ≤ cc := by omega
          refine wpAnyH_take (i := 0) (v := ?_) rfl (by kernel_rfl) (by kernel_rfl) (by kernel_rfl) (fun _ _ _ h => h) (Or.inl ⟨by rfl, ?_⟩) (by assumption) ?_
          rotate_left
          · (intro w hSw; (try dsimp only at hSw); go_simp; try with_reducible rfl)
          try simp only [List.getElem_toArray, List.getElem_cons_succ, List.getElem_cons_zero, Act.put, List.setIfInBounds_toArray, List.set_cons_zero, List.set_cons_succ]
          refine wpAnyH_take (i := 1) (v := ?_) rfl (by kernel_rfl) (by kernel_rfl) (by kernel_rfl) (fun _ _ _ h => h) (Or.inl ⟨by rfl, ?_⟩) (by assumption) ?_
          rotate_left
          · (intro w hSw; (try dsimp only at hSw); go_simp; try with_reducible rfl)
          try simp only [List.getElem_toArray, List.getElem_cons_succ, List.getElem_cons_zero, Act.put, List.setIfInBounds_toArray, List.set_cons_zero, List.set_cons_succ]
          refine wpAnyH_take (i := 2) (v := ?_) rfl (by kernel_rfl) (by kernel_rfl) (by kernel_rfl) (fun _ _ _ h => h) (Or.inl ⟨by rfl, ?_⟩) (by assumption) ?_
          rotate_left
          · (intro w hSw; (try dsimp only at hSw); go_simp; (try rw [if_pos hkc]); try with_reducible rfl)
          try simp only [List.getElem_toArray, List.getElem_cons_succ, List.getElem_cons_zero, Act.put, List.setIfInBounds_toArray, List.set_cons_zero, List.set_cons_succ]
          refine wpAnyH_take (i := 3) (v := ?_) rfl (by kernel_rfl) (by kernel_rfl) (by kernel_rfl) (fun _ _ _ h => h) (Or.inl ⟨by rfl, ?_⟩) (by assumption) ?_
          rotate_left
          · (intro w hSw; (try dsimp only at hSw); go_simp; try with_reducible rfl)
          try simp only [List.getElem_toArray, List.getElem_cons_succ, List.getElem_cons_zero, Act.put, List.setIfInBounds_toArray, List.set_cons_zero, List.set_cons_succ]
          refine wpAnyH_take (i := 4) (v := ?_) rfl (by kernel_rfl) (by kernel_rfl) (by kernel_rfl) (fun _ _ _ h => h) (Or.inl ⟨by rfl, ?_⟩) (by assumption) ?_
          rotate_left
          · (intro w hSw; (try dsimp only at hSw); go_simp; try with_reducible rfl)
          try simp only [List.getElem_toArray, List.getElem_cons_succ, List.getElem_cons_zero, Act.put, List.setIfInBounds_toArray, List.set_cons_zero, List.set_cons_succ]
          have HSQ := Lib.hid (Rp.ext _ HSL.out (HB6.out.trans (HG0.out.mono HB6.out.size)))
          refine wpAnyH_ready (rs := [5, 9]) (by kernel_rfl) (by simp) ?_
          refine AllReadyH.cons rfl (fun K hK => ?_) (AllReadyH.cons rfl (fun K hK => ?_) AllReadyH.nil)
          · rw [if_pos (by rfl)]
            simp only [List.getElem_toArray, List.getElem_cons_succ, List.getElem_cons_zero]
            go_simp
            go_at_call 26
            refine (standing_any _ (l.take k) x.id wq (by first | exact HSQ.out | (have h := HSQ.out; simpa [List.length_take, Nat.min_eq_left hk] using h))).mono ?_
            rintro e w7 ⟨rfl, hw⟩
            have HG7 : Hid (Below w6.heap.size w6 w7) := Lib.hid (HG0.out.trans (hw.mono HG0.out.size))
            clear hw
            rw [HST.out]
            try dsimp only [stpCells]
            show K _ w7
            refine hK.out _ _ (KEEP.out _ HG7.out) (fun hHeld => ?_)
            clear hK K
            try simp only [List.getElem_toArray, List.getElem_cons_succ, List.getElem_cons_zero, Act.put, List.setIfInBounds_toArray, List.set_cons_zero, List.set_cons_succ]
            refine wpAnyH_take (i := 6) (v := ?_) rfl (by kernel_rfl) (by kernel_rfl) (by kernel_rfl) (fun _ _ _ h => h) (Or.inl ⟨by rfl, ?_⟩) (by assumption) ?_
            rotate_left
            · (intro w hSw; (try dsimp only at hSw); go_simp; try with_reducible rfl)
            try simp only [List.getElem_toArray, List.getElem_cons_succ, List.getElem_cons_zero, Act.put, List.setIfInBounds_toArray, List.set_cons_zero, List.set_cons_succ]
            refine wpAnyH_take (i := 7) (v := ?_) rfl (by kernel_rfl) (by kernel_rfl) (by kernel_rfl) (fun _ _ _ h => h) (Or.inl ⟨by rfl, ?_⟩) (by assumption) ?_
            rotate_left
            · (intro w hSw; (try dsimp only at hSw); go_simp; try with_reducible rfl)
            try simp only [List.getElem_toArray, List.getElem_cons_succ, List.getElem_cons_zero, Act.put, List.setIfInBounds_toArray, List.set_cons_zero, List.set_cons_succ]
            refine wpAnyH_take (i := 8) (v := ?_) rfl (by kernel_rfl) (by kernel_rfl) (by kernel_rfl) (fun _ _ _ h => h) (Or.inl ⟨by rfl, ?_⟩) (by assumption) ?_
            rotate_left
            · (intro w hSw; (try dsimp only at hSw); go_simp; try with_reducible rfl)
            try simp only [List.getElem_toArray, List.getElem_cons_succ, List.getElem_cons_zero, Act.put, List.setIfInBounds_toArray, List.set_cons_zero, List.set_cons_succ]
            have HGZ : Hid (Below w6.heap.size w6 (w7.alloc (.cells #[.string { data := #[] }, .int .i64 0, .int .i64 0, .string { data := #[] }, .bool false, .int .i64 0, .int .i64 0] 60))) := Lib.hid (HG7.out.trans (((Below.refl w7.heap.size w7).alloc (Nat.le_refl _) (.cells #[.string { data := #[] }, .int .i64 0, .int .i64 0, .string { data := #[] }, .bool false, .int .i64 0, .int .i64 0] 60)).mono HG7.out.size))
            have HG8 : Hid (Below w6.heap.size w6 (w7.alloc (.cells #[.string (bstr s.ask.id), .int .i64 s.ask.kind, .int .i64 s.ask.at_, .string (bstr s.ask.pre), .bool s.granted, .int .i64 s.ended, .int .i64 s.end_] 60))) := Lib.hid (HG7.out.trans (((Below.refl w7.heap.size w7).alloc (Nat.le_refl _) (.cells #[.string (bstr s.ask.id), .int .i64 s.ask.kind, .int .i64 s.ask.at_, .string (bstr s.ask.pre), .bool s.granted, .int .i64 s.ended, .int .i64 s.end_] 60)).mono HG7.out.size))
            refine wpAnyH_ready (rs := [9]) (by kernel_rfl) (by simp) ?_
            refine AllReadyH.cons rfl (fun K hK => ?_) AllReadyH.nil
            rw [if_pos (by rfl)]
            simp only [List.getElem_toArray, List.getElem_cons_succ, List.getElem_cons_zero]
            go_simp
            refine hK.out _ _ (KEEP.out _ HGZ.out) (fun hHeld => ?_)
            clear hK K
            try simp only [List.getElem_toArray, List.getElem_cons_succ, List.getElem_cons_zero, Act.put, List.setIfInBounds_toArray, List.set_cons_zero, List.set_cons_succ]
            refine wpAnyH_ready (rs := [10]) (by kernel_rfl) (by simp) ?_
            refine AllReadyH.cons rfl (fun K hK => ?_) AllReadyH.nil
            rw [if_pos (by rfl)]
            simp only [List.getElem_toArray, List.getElem_cons_succ, List.getElem_cons_zero]
            go_simp
            refine hK.out _ _ (KEEP.out _ HG8.out) (fun hHeld => ?_)
            clear hK K
            try simp only [List.getElem_toArray, List.getElem_cons_succ, List.getElem_cons_zero, Act.put, List.setIfInBounds_toArray, List.set_cons_zero, List.set_cons_succ]
            refine wpAnyH_take (i := 11) (v := ?_) rfl (by kernel_rfl) (by kernel_rfl) (by kernel_rfl) (fun _ _ _ h => h) (Or.inl ⟨by rfl, ?_⟩) (by assumption) ?_
            rotate_left
            · (intro w hSw; (try dsimp only at hSw); go_simp; try with_reducible rfl)
            try simp only [List.getElem_toArray, List.getElem_cons_succ, List.getElem_cons_zero, Act.put, List.setIfInBounds_toArray, List.set_cons_zero, List.set_cons_succ]
            refine wpAnyH_done (by kernel_rfl) ?_ _
            have HKX8 := Lib.hid (HKX6.out.same (same_below HG8.out) HKX6.out.lt)
            have HKS8 := Lib.hid (Blk.new w7 60 [.string (bstr s.ask.id), .int .i64 s.ask.kind, .int .i64 s.ask.at_, .string (bstr s.ask.pre), .bool s.granted, .int .i64 s.ended, .int .i64 s.end_])
            clear hHeld
            have HB8 := Lib.hid (HB6.out.trans (HG8.out.mono HB6.out.size))
            clear HB6 HKX6 KEEP HG8 HGZ HG7 HG0 HSQ HSL
            obtain ⟨sb, hsb⟩ : ∃ sb, sb = w7.heap.size := ⟨_, rfl⟩
            rw [← hsb] at HKS8 ⊢
            clear hsb
            generalize w7.alloc (.cells #[.string (bstr s.ask.id), .int .i64 s.ask.kind, .int .i64 s.ask.at_, .string (bstr s.ask.pre), .bool s.granted, .int .i64 s.ended, .int .i64 s.end_] 60) = w8 at *
            have x1 : w8.cell? ⟨xb, 1, none⟩ = some (.int .i64 x.kind) := HKX8.out.cell 1
            have s4 : w8.cell? ⟨sb, 4, none⟩ = some (.bool s.granted) := HKS8.out.cell 4
            have s5 : w8.cell? ⟨sb, 5, none⟩ = some (.int .i64 s.ended) := HKS8.out.cell 5
            have HK : Hid (x.kind ≠ 1) := Lib.hid (by simpa using HBB.out)
            have hkb : (x.kind == (1 : Int)) = false := by simpa using HBB.out
            have hkc : (x.kind != (1 : Int)) = true := HBB.out
            cases fd with
            | false =>
              have HF : Hid (appsFaultH l = 9) := Lib.hid (F1.out _ (HFO2.out.trans (by rw [if_neg (fun e => HK.out e.1), if_pos ⟨HK.out, rfl⟩])) (by decide))
              clear F1 HFO2 G5
              go_wp2_with fail
              go_ret
              exact ⟨by rw [HF.out]; rfl, HB8.out⟩
            | true =>
            by_cases hen : s.ended = 0
            case neg =>
              have HE := Lib.hid hen
              have hee : (s.ended != (0 : Int)) = true := by simpa using hen
              clear hen
              have HF : Hid (appsFaultH l = 11) := Lib.hid (F1.out _ (HFO2.out.trans (by rw [if_neg (fun e => HK.out e.1), if_neg (fun e => by cases e.2), if_pos ⟨HK.out, .inl HE.out⟩])) (by decide))
              clear F1 HFO2 G5
              go_wp2_with fail
              go_ret
              exact ⟨by rw [HF.out]; rfl, HB8.out⟩
            have HE := Lib.hid hen
            rw [hen] at s5
            clear hen
            cases hgr : s.granted with
            | false =>
              have HGR := Lib.hid hgr
              rw [hgr] at s4
              clear hgr
              have GN := Lib.hid (G5.out (HFO2.out.trans (by rw [if_neg (fun e => HK.out e.1), if_neg (fun e => by cases e.2), if_neg (fun e => by rcases e.2 with h | h; exact h HE.out; rw [HGR.out] at h; cases h.1)])))
              clear G5 F1 HFO2
              go_wp2_with fail
              clear x1 s4 s5
              go_roundw
              case rel => first | exact ⟨k + 1, by omega, by go_num, GN, HB8⟩ | (repeat (apply Exists.intro); (refine And.intro ?_ ?_; rotate_left; (repeat' (first | exact rfl | apply And.intro)); exact ⟨k + 1, by omega, by go_num, GN, HB8⟩))
              case measure => simp [intOf]; omega
            | true =>
            have HGR := Lib.hid hgr
            rw [hgr] at s4
            clear hgr
            by_cases h4 : x.kind = 4
            · have H4 := Lib.hid h4
              rw [h4] at x1
              clear h4
              have GN := Lib.hid (G5.out (HFO2.out.trans (by rw [if_neg (fun e => HK.out e.1), if_neg (fun e => by cases e.2), if_neg (fun e => by rcases e.2 with h | h; exact h HE.out; exact h.2 H4.out)])))
              clear G5 F1 HFO2
              go_wp2_with fail
              clear x1 s4 s5
              go_roundw
              case rel => first | exact ⟨k + 1, by omega, by go_num, GN, HB8⟩ | (repeat (apply Exists.intro); (refine And.intro ?_ ?_; rotate_left; (repeat' (first | exact rfl | apply And.intro)); exact ⟨k + 1, by omega, by go_num, GN, HB8⟩))
              case measure => simp [intOf]; omega
            · have H4 := Lib.hid h4
              have h4b : (x.kind != (4 : Int)) = true := by simpa using h4
              clear h4
              have HF : Hid (appsFaultH l = 11) := Lib.hid (F1.out _ (HFO2.out.trans (by rw [if_neg (fun e => HK.out e.1), if_neg (fun e => by cases e.2), if_pos ⟨HK.out, .inr ⟨HGR.out, H4.out⟩⟩])) (by decide))
              clear F1 HFO2 G5
              go_wp2_with fail
              go_ret
              exact ⟨by rw [HF.out]; rfl, HB8.out⟩
          · rw [if_pos (by rfl)]
            simp only [List.getElem_toArray, List.getElem_cons_succ, List.getElem_cons_zero]
            go_simp
            have HZL := Lib.hid ((Below.refl wq.heap.size wq).alloc (Nat.le_refl _) (.cells #[.string { data := #[] }, .int .i64 0, .int .i64 0, .string { data := #[] }, .bool false, .int .i64 0, .int .i64 0] 60))
            have HGZ : Hid (Below w6.heap.size w6 (wq.alloc (.cells #[.string { data := #[] }, .int .i64 0, .int .i64 0, .string { data := #[] }, .bool false, .int .i64 0, .int .i64 0] 60))) := Lib.hid (HG0.out.trans (HZL.out.mono HG0.out.size))
            have HKZ := Lib.hid (Blk.new wq 60 [.string { data := #[] }, .int .i64 0, .int .i64 0, .string { data := #[] }, .bool false, .int .i64 0, .int .i64 0])
            have HSQZ := Lib.hid (Rp.ext _ HSQ.out HZL.out)
            have HXQ : Hid (xb < wq.heap.size) := Lib.hid (Nat.lt_of_lt_of_le HKX6.out.lt HG0.out.size)
            have HWQ : Hid (w6.heap.size ≤ wq.heap.size) := Lib.hid HG0.out.size
            refine hK.out _ _ (KEEP.out _ HGZ.out) (fun hHeld => ?_)
            clear hK K HSQ HZL
            try simp only [List.getElem_toArray, List.getElem_cons_succ, List.getElem_cons_zero, Act.put, List.setIfInBounds_toArray, List.set_cons_zero, List.set_cons_succ]
            obtain ⟨sb, hsb⟩ : ∃ sb, sb = wq.heap.size := ⟨_, rfl⟩
            rw [← hsb] at HKZ HXQ HWQ ⊢
            generalize wq.alloc (.cells #[.string { data := #[] }, .int .i64 0, .int .i64 0, .string { data := #[] }, .bool false, .int .i64 0, .int .i64 0] 60) = wz at *
            have HSQ := HSQZ
            clear HSQZ hsb
            refine wpAnyH_ready (rs := [5]) (by kernel_rfl) (by simp) ?_
            refine AllReadyH.cons rfl (fun K hK => ?_) AllReadyH.nil
            rw [if_pos (by rfl)]
            simp only [List.getElem_toArray, List.getElem_cons_succ, List.getElem_cons_zero]
            go_simp
            go_at_call 26
            refine (standing_any _ (l.take k) x.id wz (by first | exact HSQ.out | (have h := HSQ.out; simpa [List.length_take, Nat.min_eq_left hk] using h))).mono ?_
            rintro e w7 ⟨rfl, hw⟩
            have HG7 : Hid (Below w6.heap.size w6 w7) := Lib.hid (HGZ.out.trans (hw.mono HGZ.out.size))
            have HKZ7 := Lib.hid (HKZ.out.same (same_below hw) HKZ.out.lt)
            have HKX7 := Lib.hid (HKX6.out.same (same_below HG7.out) HKX6.out.lt)
            clear hw
            rw [HST.out]
            try dsimp only [stpCells]
            show K _ w7
            refine hK.out _ _ (KEEP.out _ HG7.out) (fun hHeld => ?_)
            clear hK K
            try simp only [List.getElem_toArray, List.getElem_cons_succ, List.getElem_cons_zero, Act.put, List.setIfInBounds_toArray, List.set_cons_zero, List.set_cons_succ]
            refine wpAnyH_take (i := 6) (v := ?_) rfl (by kernel_rfl) (by kernel_rfl) (by kernel_rfl) (fun _ _ _ h => h) (Or.inl ⟨by rfl, ?_⟩) (by assumption) ?_
            rotate_left
            · (intro w hSw; (try dsimp only at hSw); go_simp; try with_reducible rfl)
            try simp only [List.getElem_toArray, List.getElem_cons_succ, List.getElem_cons_zero, Act.put, List.setIfInBounds_toArray, List.set_cons_zero, List.set_cons_succ]
            refine wpAnyH_take (i := 7) (v := ?_) rfl (by kernel_rfl) (by kernel_rfl) (by kernel_rfl) (fun _ _ _ h => h) (Or.inl ⟨by rfl, ?_⟩) (by assumption) ?_
            rotate_left
            · (intro w hSw; (try dsimp only at hSw); go_simp; try with_reducible rfl)
            try simp only [List.getElem_toArray, List.getElem_cons_succ, List.getElem_cons_zero, Act.put, List.setIfInBounds_toArray, List.set_cons_zero, List.set_cons_succ]
            refine wpAnyH_take (i := 8) (v := ?_) rfl (by kernel_rfl) (by kernel_rfl) (by kernel_rfl) (fun _ _ _ h => h) (Or.inl ⟨by rfl, ?_⟩) (by assumption) ?_
            rotate_left
            · (intro w hSw; (try dsimp only at hSw); go_simp; try with_reducible rfl)
            try simp only [List.getElem_toArray, List.getElem_cons_succ, List.getElem_cons_zero, Act.put, List.setIfInBounds_toArray, List.set_cons_zero, List.set_cons_succ]
            have y0 : w7.cell? ⟨sb, 0, none⟩ = some (.string { data := #[] }) := HKZ7.out.cell 0
            have z0 := HKZ7.out.frozen 0
            have y1 : w7.cell? ⟨sb, 1, none⟩ = some (.int .i64 0) := HKZ7.out.cell 1
            have z1 := HKZ7.out.frozen 1
            have y2 : w7.cell? ⟨sb, 2, none⟩ = some (.int .i64 0) := HKZ7.out.cell 2
            have z2 := HKZ7.out.frozen 2
            have y3 : w7.cell? ⟨sb, 3, none⟩ = some (.string { data := #[] }) := HKZ7.out.cell 3
            have z3 := HKZ7.out.frozen 3
            have y4 : w7.cell? ⟨sb, 4, none⟩ = some (.bool false) := HKZ7.out.cell 4
            have z4 := HKZ7.out.frozen 4
            have y5 : w7.cell? ⟨sb, 5, none⟩ = some (.int .i64 0) := HKZ7.out.cell 5
            have z5 := HKZ7.out.frozen 5
            have y6 : w7.cell? ⟨sb, 6, none⟩ = some (.int .i64 0) := HKZ7.out.cell 6
            have z6 := HKZ7.out.frozen 6
            have HPUT : Hid (_ ∧ _ ∧ Below w6.heap.size w6 (((((((w7.setCell ⟨sb, 0, none⟩ (.string (bstr s.ask.id))).setCell ⟨sb, 1, none⟩ (.int .i64 s.ask.kind)).setCell ⟨sb, 2, none⟩ (.int .i64 s.ask.at_)).setCell ⟨sb, 3, none⟩ (.string (bstr s.ask.pre))).setCell ⟨sb, 4, none⟩ (.bool s.granted)).setCell ⟨sb, 5, none⟩ (.int .i64 s.ended)).setCell ⟨sb, 6, none⟩ (.int .i64 s.end_))) := Lib.hid (put7 (v0 := .string (bstr s.ask.id)) (v1 := .int .i64 s.ask.kind) (v2 := .int .i64 s.ask.at_) (v3 := .string (bstr s.ask.pre)) (v4 := .bool s.granted) (v5 := .int .i64 s.ended) (v6 := .int .i64 s.end_) HKZ7.out HKX7.out (by have := HXQ.out; omega) HWQ.out HG7.out)
            refine wpAnyH_ready (rs := [10]) (by kernel_rfl) (by simp) ?_
            refine AllReadyH.cons rfl (fun K hK => ?_) AllReadyH.nil
            rw [if_pos (by rfl)]
            simp only [List.getElem_toArray, List.getElem_cons_succ, List.getElem_cons_zero]
            go_simp
            refine hK.out _ _ (KEEP.out _ HPUT.out.2.2) (fun hHeld => ?_)
            clear hK K
            try simp only [List.getElem_toArray, List.getElem_cons_succ, List.getElem_cons_zero, Act.put, List.setIfInBounds_toArray, List.set_cons_zero, List.set_cons_succ]
            refine wpAnyH_take (i := 11) (v := ?_) rfl (by kernel_rfl) (by kernel_rfl) (by kernel_rfl) (fun _ _ _ h => h) (Or.inl ⟨by rfl, ?_⟩) (by assumption) ?_
            rotate_left
            · (intro w hSw; (try dsimp only at hSw); go_simp; try with_reducible rfl)
            try simp only [List.getElem_toArray, List.getElem_cons_succ, List.getElem_cons_zero, Act.put, List.setIfInBounds_toArray, List.set_cons_zero, List.set_cons_succ]
            refine wpAnyH_done (by kernel_rfl) ?_ _
            clear y0 z0 y1 z1 y2 z2 y3 z3 y4 z4 y5 z5 y6 z6
            have HKS8 := Lib.hid HPUT.out.1
            have HKX8 := Lib.hid HPUT.out.2.1
            have HG8 := Lib.hid HPUT.out.2.2
            clear HPUT HKZ HKZ7 HKX7 HXQ HWQ
            clear hHeld
            have HB8 := Lib.hid (HB6.out.trans (HG8.out.mono HB6.out.size))
            clear HB6 HKX6 KEEP HG8 HGZ HG7 HG0 HSQ HSL
            generalize (((((((w7.setCell ⟨sb, 0, none⟩ (.string (bstr s.ask.id))).setCell ⟨sb, 1, none⟩ (.int .i64 s.ask.kind)).setCell ⟨sb, 2, none⟩ (.int .i64 s.ask.at_)).setCell ⟨sb, 3, none⟩ (.string (bstr s.ask.pre))).setCell ⟨sb, 4, none⟩ (.bool s.granted)).setCell ⟨sb, 5, none⟩ (.int .i64 s.ended)).setCell ⟨sb, 6, none⟩ (.int .i64 s.end_)) = w8 at *
            have x1 : w8.cell? ⟨xb, 1, none⟩ = some (.int .i64 x.kind) := HKX8.out.cell 1
            have s4 : w8.cell? ⟨sb, 4, none⟩ = some (.bool s.granted) := HKS8.out.cell 4
            have s5 : w8.cell? ⟨sb, 5, none⟩ = some (.int .i64 s.ended) := HKS8.out.cell 5
            have HK : Hid (x.kind ≠ 1) := Lib.hid (by simpa using HBB.out)
            have hkb : (x.kind == (1 : Int)) = false := by simpa using HBB.out
            have hkc : (x.kind != (1 : Int)) = true := HBB.out
            cases fd with
            | false =>
              have HF : Hid (appsFaultH l = 9) := Lib.hid (F1.out _ (HFO2.out.trans (by rw [if_neg (fun e => HK.out e.1), if_pos ⟨HK.out, rfl⟩])) (by decide))
              clear F1 HFO2 G5
              go_wp2_with fail
              go_ret
              exact ⟨by rw [HF.out]; rfl, HB8.out⟩
            | true =>
            by_cases hen : s.ended = 0
            case neg =>
              have HE := Lib.hid hen
              have hee : (s.ended != (0 : Int)) = true := by simpa using hen
              clear hen
              have HF : Hid (appsFaultH l = 11) := Lib.hid (F1.out _ (HFO2.out.trans (by rw [if_neg (fun e => HK.out e.1), if_neg (fun e => by cases e.2), if_pos ⟨HK.out, .inl HE.out⟩])) (by decide))
              clear F1 HFO2 G5
              go_wp2_with fail
              go_ret
              exact ⟨by rw [HF.out]; rfl, HB8.out⟩
            have HE := Lib.hid hen
            rw [hen] at s5
            clear hen
            cases hgr : s.granted with
            | false =>
              have HGR := Lib.hid hgr
              rw [hgr] at s4
              clear hgr
              have GN := Lib.hid (G5.out (HFO2.out.trans (by rw [if_neg (fun e => HK.out e.1), if_neg (fun e => by cases e.2), if_neg (fun e => by rcases e.2 with h | h; exact h HE.out; rw [HGR.out] at h; cases h.1)])))
              clear G5 F1 HFO2
              go_wp2_with fail
              clear x1 s4 s5
              go_roundw
              case rel => first | exact ⟨k + 1, by omega, by go_num, GN, HB8⟩ | (repeat (apply Exists.intro); (refine And.intro ?_ ?_; rotate_left; (repeat' (first | exact rfl | apply And.intro)); exact ⟨k + 1, by omega, by go_num, GN, HB8⟩))
              case measure => simp [intOf]; omega
            | true =>
            have HGR := Lib.hid hgr
            rw [hgr] at s4
            clear hgr
            by_cases h4 : x.kind = 4
            · have H4 := Lib.hid h4
              rw [h4] at x1
              clear h4
              have GN := Lib.hid (G5.out (HFO2.out.trans (by rw [if_neg (fun e => HK.out e.1), if_neg (fun e => by cases e.2), if_neg (fun e => by rcases e.2 with h | h; exact h HE.out; exact h.2 H4.out)])))
              clear G5 F1 HFO2
              go_wp2_with fail
              clear x1 s4 s5
              go_roundw
              case rel => first | exact ⟨k + 1, by omega, by go_num, GN, HB8⟩ | (repeat (apply Exists.intro); (refine And.intro ?_ ?_; rotate_left; (repeat' (first | exact rfl | apply And.intro)); exact ⟨k + 1, by omega, by go_num, GN, HB8⟩))
              case measure => simp [intOf]; omega
            · have H4 := Lib.hid h4
              have h4b : (x.kind != (4 : Int)) = true := by simpa using h4
              clear h4
              have HF : Hid (appsFaultH l = 11) := Lib.hid (F1.out _ (HFO2.out.trans (by rw [if_neg (fun e => HK.out e.1), if_neg (fun e => by cases e.2), if_pos ⟨HK.out, .inr ⟨HGR.out, H4.out⟩⟩])) (by decide))
              clear F1 HFO2 G5
              go_wp2_with fail
              go_ret
              exact ⟨by rw [HF.out]; rfl, HB8.out⟩
        · have HH : Hid (headF l k = 0) := Lib.hid (HHD2.out.trans (if_neg (fun e => hk0 e.1)))
          have hkk : decide ((k : Int) > 0) = false := decide_eq_false (by omega)
          have hk0' : ¬ (0 : Int) < (k : Int) := by omega
          go_quiet (fail)
          have HB6 := Lib.hid (below_drewN HB5.out nq)
          have HKX6 := Lib.hid (HKX5.out.same (same_below (below_drewN (Below.refl w5'.heap.size w5') nq)) HKX5.out.lt)
          clear HKX5 HB5 x0 x1 x2 x3
          generalize w5'.drewN nq = w6 at *
          go_wp2_with fail
          clear hkk hk0' hk0 HHD2 HPV
          have HFO2 := Lib.hid (HFO.out.trans (if_neg (by rw [HH.out]; decide)))
          clear HFO HH
          have KEEP : Hid (∀ w', Below w6.heap.size w6 w' → (w'.cell? ⟨xb, 0, none⟩ = some (.string (bstr x.id)))) := Lib.hid (fun w' hg => (HKX6.out.same (same_below hg) HKX6.out.lt).cell 0)
          refine wp_region_held_drew (S := fun w' => w'.cell? ⟨xb, 0, none⟩ = some (.string (bstr x.id))) (by kernel_rfl) (KEEP.out _ (Below.drew (Below.refl _ _))) (fun hHeld => ?_)
          obtain ⟨wq, hwq⟩ : ∃ wq, wq = World.drew w6 := ⟨_, rfl⟩
          have HG0 : Hid (Below w6.heap.size w6 wq) := Lib.hid (by rw [hwq]; exact Below.drew (Below.refl _ _))
          rw [← hwq] at hHeld ⊢
          clear hwq
          have hkc : k ≤ cc := by omega
          refine wpAnyH_take (i := 0) (v := ?_) rfl (by kernel_rfl) (by kernel_rfl) (by kernel_rfl) (fun _ _ _ h => h) (Or.inl ⟨by rfl, ?_⟩) (by assumption) ?_
          rotate_left
          · (intro w hSw; (try dsimp only at hSw); go_simp; try with_reducible rfl)
          try simp only [List.getElem_toArray, List.getElem_cons_succ, List.getElem_cons_zero, Act.put, List.setIfInBounds_toArray, List.set_cons_zero, List.set_cons_succ]
          refine wpAnyH_take (i := 1) (v := ?_) rfl (by kernel_rfl) (by kernel_rfl) (by kernel_rfl) (fun _ _ _ h => h) (Or.inl ⟨by rfl, ?_⟩) (by assumption) ?_
          rotate_left
          · (intro w hSw; (try dsimp only at hSw); go_simp; try with_reducible rfl)
          try simp only [List.getElem_toArray, List.getElem_cons_succ, List.getElem_cons_zero, Act.put, List.setIfInBounds_toArray, List.set_cons_zero, List.set_cons_succ]
          refine wpAnyH_take (i := 2) (v := ?_) rfl (by kernel_rfl) (by kernel_rfl) (by kernel_rfl) (fun _ _ _ h => h) (Or.inl ⟨by rfl, ?_⟩) (by assumption) ?_
          rotate_left
          · (intro w hSw; (try dsimp only at hSw); go_simp; (try rw [if_pos hkc]); try with_reducible rfl)
          try simp only [List.getElem_toArray, List.getElem_cons_succ, List.getElem_cons_zero, Act.put, List.setIfInBounds_toArray, List.set_cons_zero, List.set_cons_succ]
          refine wpAnyH_take (i := 3) (v := ?_) rfl (by kernel_rfl) (by kernel_rfl) (by kernel_rfl) (fun _ _ _ h => h) (Or.inl ⟨by rfl, ?_⟩) (by assumption) ?_
          rotate_left
          · (intro w hSw; (try dsimp only at hSw); go_simp; try with_reducible rfl)
          try simp only [List.getElem_toArray, List.getElem_cons_succ, List.getElem_cons_zero, Act.put, List.setIfInBounds_toArray, List.set_cons_zero, List.set_cons_succ]
          refine wpAnyH_take (i := 4) (v := ?_) rfl (by kernel_rfl) (by kernel_rfl) (by kernel_rfl) (fun _ _ _ h => h) (Or.inl ⟨by rfl, ?_⟩) (by assumption) ?_
          rotate_left
          · (intro w hSw; (try dsimp only at hSw); go_simp; try with_reducible rfl)
          try simp only [List.getElem_toArray, List.getElem_cons_succ, List.getElem_cons_zero, Act.put, List.setIfInBounds_toArray, List.set_cons_zero, List.set_cons_succ]
          have HSQ := Lib.hid (Rp.ext _ HSL.out (HB6.out.trans (HG0.out.mono HB6.out.size)))
          refine wpAnyH_ready (rs := [5, 9]) (by kernel_rfl) (by simp) ?_
          refine AllReadyH.cons rfl (fun K hK => ?_) (AllReadyH.cons rfl (fun K hK => ?_) AllReadyH.nil)
          · rw [if_pos (by rfl)]
            simp only [List.getElem_toArray, List.getElem_cons_succ, List.getElem_cons_zero]
            go_simp
            go_at_call 26
            refine (standing_any _ (l.take k) x.id wq (by first | exact HSQ.out | (have h := HSQ.out; simpa [List.length_take, Nat.min_eq_left hk] using h))).mono ?_
            rintro e w7 ⟨rfl, hw⟩
            have HG7 : Hid (Below w6.heap.size w6 w7) := Lib.hid (HG0.out.trans (hw.mono HG0.out.size))
            clear hw
            rw [HST.out]
            try dsimp only [stpCells]
            show K _ w7
            refine hK.out _ _ (KEEP.out _ HG7.out) (fun hHeld => ?_)
            clear hK K
            try simp only [List.getElem_toArray, List.getElem_cons_succ, List.getElem_cons_zero, Act.put, List.setIfInBounds_toArray, List.set_cons_zero, List.set_cons_succ]
            refine wpAnyH_take (i := 6) (v := ?_) rfl (by kernel_rfl) (by kernel_rfl) (by kernel_rfl) (fun _ _ _ h => h) (Or.inl ⟨by rfl, ?_⟩) (by assumption) ?_
            rotate_left
            · (intro w hSw; (try dsimp only at hSw); go_simp; try with_reducible rfl)
            try simp only [List.getElem_toArray, List.getElem_cons_succ, List.getElem_cons_zero, Act.put, List.setIfInBounds_toArray, List.set_cons_zero, List.set_cons_succ]
            refine wpAnyH_take (i := 7) (v := ?_) rfl (by kernel_rfl) (by kernel_rfl) (by kernel_rfl) (fun _ _ _ h => h) (Or.inl ⟨by rfl, ?_⟩) (by assumption) ?_
            rotate_left
            · (intro w hSw; (try dsimp only at hSw); go_simp; try with_reducible rfl)
            try simp only [List.getElem_toArray, List.getElem_cons_succ, List.getElem_cons_zero, Act.put, List.setIfInBounds_toArray, List.set_cons_zero, List.set_cons_succ]
            refine wpAnyH_take (i := 8) (v := ?_) rfl (by kernel_rfl) (by kernel_rfl) (by kernel_rfl) (fun _ _ _ h => h) (Or.inl ⟨by rfl, ?_⟩) (by assumption) ?_
            rotate_left
            · (intro w hSw; (try dsimp only at hSw); go_simp; try with_reducible rfl)
            try simp only [List.getElem_toArray, List.getElem_cons_succ, List.getElem_cons_zero, Act.put, List.setIfInBounds_toArray, List.set_cons_zero, List.set_cons_succ]
            have HGZ : Hid (Below w6.heap.size w6 (w7.alloc (.cells #[.string { data := #[] }, .int .i64 0, .int .i64 0, .string { data := #[] }, .bool false, .int .i64 0, .int .i64 0] 60))) := Lib.hid (HG7.out.trans (((Below.refl w7.heap.size w7).alloc (Nat.le_refl _) (.cells #[.string { data := #[] }, .int .i64 0, .int .i64 0, .string { data := #[] }, .bool false, .int .i64 0, .int .i64 0] 60)).mono HG7.out.size))
            have HG8 : Hid (Below w6.heap.size w6 (w7.alloc (.cells #[.string (bstr s.ask.id), .int .i64 s.ask.kind, .int .i64 s.ask.at_, .string (bstr s.ask.pre), .bool s.granted, .int .i64 s.ended, .int .i64 s.end_] 60))) := Lib.hid (HG7.out.trans (((Below.refl w7.heap.size w7).alloc (Nat.le_refl _) (.cells #[.string (bstr s.ask.id), .int .i64 s.ask.kind, .int .i64 s.ask.at_, .string (bstr s.ask.pre), .bool s.granted, .int .i64 s.ended, .int .i64 s.end_] 60)).mono HG7.out.size))
            refine wpAnyH_ready (rs := [9]) (by kernel_rfl) (by simp) ?_
            refine AllReadyH.cons rfl (fun K hK => ?_) AllReadyH.nil
            rw [if_pos (by rfl)]
            simp only [List.getElem_toArray, List.getElem_cons_succ, List.getElem_cons_zero]
            go_simp
            refine hK.out _ _ (KEEP.out _ HGZ.out) (fun hHeld => ?_)
            clear hK K
            try simp only [List.getElem_toArray, List.getElem_cons_succ, List.getElem_cons_zero, Act.put, List.setIfInBounds_toArray, List.set_cons_zero, List.set_cons_succ]
            refine wpAnyH_ready (rs := [10]) (by kernel_rfl) (by simp) ?_
            refine AllReadyH.cons rfl (fun K hK => ?_) AllReadyH.nil
            rw [if_pos (by rfl)]
            simp only [List.getElem_toArray, List.getElem_cons_succ, List.getElem_cons_zero]
            go_simp
            refine hK.out _ _ (KEEP.out _ HG8.out) (fun hHeld => ?_)
            clear hK K
            try simp only [List.getElem_toArray, List.getElem_cons_succ, List.getElem_cons_zero, Act.put, List.setIfInBounds_toArray, List.set_cons_zero, List.set_cons_succ]
            refine wpAnyH_take (i := 11) (v := ?_) rfl (by kernel_rfl) (by kernel_rfl) (by kernel_rfl) (fun _ _ _ h => h) (Or.inl ⟨by rfl, ?_⟩) (by assumption) ?_
            rotate_left
            · (intro w hSw; (try dsimp only at hSw); go_simp; try with_reducible rfl)
            try simp only [List.getElem_toArray, List.getElem_cons_succ, List.getElem_cons_zero, Act.put, List.setIfInBounds_toArray, List.set_cons_zero, List.set_cons_succ]
            refine wpAnyH_done (by kernel_rfl) ?_ _
            have HKX8 := Lib.hid (HKX6.out.same (same_below HG8.out) HKX6.out.lt)
            have HKS8 := Lib.hid (Blk.new w7 60 [.string (bstr s.ask.id), .int .i64 s.ask.kind, .int .i64 s.ask.at_, .string (bstr s.ask.pre), .bool s.granted, .int .i64 s.ended, .int .i64 s.end_])
            clear hHeld
            have HB8 := Lib.hid (HB6.out.trans (HG8.out.mono HB6.out.size))
            clear HB6 HKX6 KEEP HG8 HGZ HG7 HG0 HSQ HSL
            obtain ⟨sb, hsb⟩ : ∃ sb, sb = w7.heap.size := ⟨_, rfl⟩
            rw [← hsb] at HKS8 ⊢
            clear hsb
            generalize w7.alloc (.cells #[.string (bstr s.ask.id), .int .i64 s.ask.kind, .int .i64 s.ask.at_, .string (bstr s.ask.pre), .bool s.granted, .int .i64 s.ended, .int .i64 s.end_] 60) = w8 at *
            have x1 : w8.cell? ⟨xb, 1, none⟩ = some (.int .i64 x.kind) := HKX8.out.cell 1
            have s4 : w8.cell? ⟨sb, 4, none⟩ = some (.bool s.granted) := HKS8.out.cell 4
            have s5 : w8.cell? ⟨sb, 5, none⟩ = some (.int .i64 s.ended) := HKS8.out.cell 5
            have HK : Hid (x.kind ≠ 1) := Lib.hid (by simpa using HBB.out)
            have hkb : (x.kind == (1 : Int)) = false := by simpa using HBB.out
            have hkc : (x.kind != (1 : Int)) = true := HBB.out
            cases fd with
            | false =>
              have HF : Hid (appsFaultH l = 9) := Lib.hid (F1.out _ (HFO2.out.trans (by rw [if_neg (fun e => HK.out e.1), if_pos ⟨HK.out, rfl⟩])) (by decide))
              clear F1 HFO2 G5
              go_wp2_with fail
              go_ret
              exact ⟨by rw [HF.out]; rfl, HB8.out⟩
            | true =>
            by_cases hen : s.ended = 0
            case neg =>
              have HE := Lib.hid hen
              have hee : (s.ended != (0 : Int)) = true := by simpa using hen
              clear hen
              have HF : Hid (appsFaultH l = 11) := Lib.hid (F1.out _ (HFO2.out.trans (by rw [if_neg (fun e => HK.out e.1), if_neg (fun e => by cases e.2), if_pos ⟨HK.out, .inl HE.out⟩])) (by decide))
              clear F1 HFO2 G5
              go_wp2_with fail
              go_ret
              exact ⟨by rw [HF.out]; rfl, HB8.out⟩
            have HE := Lib.hid hen
            rw [hen] at s5
            clear hen
            cases hgr : s.granted with
            | false =>
              have HGR := Lib.hid hgr
              rw [hgr] at s4
              clear hgr
              have GN := Lib.hid (G5.out (HFO2.out.trans (by rw [if_neg (fun e => HK.out e.1), if_neg (fun e => by cases e.2), if_neg (fun e => by rcases e.2 with h | h; exact h HE.out; rw [HGR.out] at h; cases h.1)])))
              clear G5 F1 HFO2
              go_wp2_with fail
              clear x1 s4 s5
              go_roundw
              case rel => first | exact ⟨k + 1, by omega, by go_num, GN, HB8⟩ | (repeat (apply Exists.intro); (refine And.intro ?_ ?_; rotate_left; (repeat' (first | exact rfl | apply And.intro)); exact ⟨k + 1, by omega, by go_num, GN, HB8⟩))
              case measure => simp [intOf]; omega
            | true =>
            have HGR := Lib.hid hgr
            rw [hgr] at s4
            clear hgr
            by_cases h4 : x.kind = 4
            · have H4 := Lib.hid h4
              rw [h4] at x1
              clear h4
              have GN := Lib.hid (G5.out (HFO2.out.trans (by rw [if_neg (fun e => HK.out e.1), if_neg (fun e => by cases e.2), if_neg (fun e => by rcases e.2 with h | h; exact h HE.out; exact h.2 H4.out)])))
              clear G5 F1 HFO2
              go_wp2_with fail
              clear x1 s4 s5
              go_roundw
              case rel => first | exact ⟨k + 1, by omega, by go_num, GN, HB8⟩ | (repeat (apply Exists.intro); (refine And.intro ?_ ?_; rotate_left; (repeat' (first | exact rfl | apply And.intro)); exact ⟨k + 1, by omega, by go_num, GN, HB8⟩))
              case measure => simp [intOf]; omega
            · have H4 := Lib.hid h4
              have h4b : (x.kind != (4 : Int)) = true := by simpa using h4
              clear h4
              have HF : Hid (appsFaultH l = 11) := Lib.hid (F1.out _ (HFO2.out.trans (by rw [if_neg (fun e => HK.out e.1), if_neg (fun e => by cases e.2), if_pos ⟨HK.out, .inr ⟨HGR.out, H4.out⟩⟩])) (by decide))
              clear F1 HFO2 G5
              go_wp2_with fail
              go_ret
              exact ⟨by rw [HF.out]; rfl, HB8.out⟩
          · rw [if_pos (by rfl)]
            simp only [List.getElem_toArray, List.getElem_cons_succ, List.getElem_cons_zero]
            go_simp
            have HZL := Lib.hid ((Below.refl wq.heap.size wq).alloc (Nat.le_refl _) (.cells #[.string { data := #[] }, .int .i64 0, .int .i64 0, .string { data := #[] }, .bool false, .int .i64 0, .int .i64 0] 60))
            have HGZ : Hid (Below w6.heap.size w6 (wq.alloc (.cells #[.string { data := #[] }, .int .i64 0, .int .i64 0, .string { data := #[] }, .bool false, .int .i64 0, .int .i64 0] 60))) := Lib.hid (HG0.out.trans (HZL.out.mono HG0.out.size))
            have HKZ := Lib.hid (Blk.new wq 60 [.string { data := #[] }, .int .i64 0, .int .i64 0, .string { data := #[] }, .bool false, .int .i64 0, .int .i64 0])
            have HSQZ := Lib.hid (Rp.ext _ HSQ.out HZL.out)
            have HXQ : Hid (xb < wq.heap.size) := Lib.hid (Nat.lt_of_lt_of_le HKX6.out.lt HG0.out.size)
            have HWQ : Hid (w6.heap.size ≤ wq.heap.size) := Lib.hid HG0.out.size
            refine hK.out _ _ (KEEP.out _ HGZ.out) (fun hHeld => ?_)
            clear hK K HSQ HZL
            try simp only [List.getElem_toArray, List.getElem_cons_succ, List.getElem_cons_zero, Act.put, List.setIfInBounds_toArray, List.set_cons_zero, List.set_cons_succ]
            obtain ⟨sb, hsb⟩ : ∃ sb, sb = wq.heap.size := ⟨_, rfl⟩
            rw [← hsb] at HKZ HXQ HWQ ⊢
            generalize wq.alloc (.cells #[.string { data := #[] }, .int .i64 0, .int .i64 0, .string { data := #[] }, .bool false, .int .i64 0, .int .i64 0] 60) = wz at *
            have HSQ := HSQZ
            clear HSQZ hsb
            refine wpAnyH_ready (rs := [5]) (by kernel_rfl) (by simp) ?_
            refine AllReadyH.cons rfl (fun K hK => ?_) AllReadyH.nil
            rw [if_pos (by rfl)]
            simp only [List.getElem_toArray, List.getElem_cons_succ, List.getElem_cons_zero]
            go_simp
            go_at_call 26
            refine (standing_any _ (l.take k) x.id wz (by first | exact HSQ.out | (have h := HSQ.out; simpa [List.length_take, Nat.min_eq_left hk] using h))).mono ?_
            rintro e w7 ⟨rfl, hw⟩
            have HG7 : Hid (Below w6.heap.size w6 w7) := Lib.hid (HGZ.out.trans (hw.mono HGZ.out.size))
            have HKZ7 := Lib.hid (HKZ.out.same (same_below hw) HKZ.out.lt)
            have HKX7 := Lib.hid (HKX6.out.same (same_below HG7.out) HKX6.out.lt)
            clear hw
            rw [HST.out]
            try dsimp only [stpCells]
            show K _ w7
            refine hK.out _ _ (KEEP.out _ HG7.out) (fun hHeld => ?_)
            clear hK K
            try simp only [List.getElem_toArray, List.getElem_cons_succ, List.getElem_cons_zero, Act.put, List.setIfInBounds_toArray, List.set_cons_zero, List.set_cons_succ]
            refine wpAnyH_take (i := 6) (v := ?_) rfl (by kernel_rfl) (by kernel_rfl) (by kernel_rfl) (fun _ _ _ h => h) (Or.inl ⟨by rfl, ?_⟩) (by assumption) ?_
            rotate_left
            · (intro w hSw; (try dsimp only at hSw); go_simp; try with_reducible rfl)
            try simp only [List.getElem_toArray, List.getElem_cons_succ, List.getElem_cons_zero, Act.put, List.setIfInBounds_toArray, List.set_cons_zero, List.set_cons_succ]
            refine wpAnyH_take (i := 7) (v := ?_) rfl (by kernel_rfl) (by kernel_rfl) (by kernel_rfl) (fun _ _ _ h => h) (Or.inl ⟨by rfl, ?_⟩) (by assumption) ?_
            rotate_left
            · (intro w hSw; (try dsimp only at hSw); go_simp; try with_reducible rfl)
            try simp only [List.getElem_toArray, List.getElem_cons_succ, List.getElem_cons_zero, Act.put, List.setIfInBounds_toArray, List.set_cons_zero, List.set_cons_succ]
            refine wpAnyH_take (i := 8) (v := ?_) rfl (by kernel_rfl) (by kernel_rfl) (by kernel_rfl) (fun _ _ _ h => h) (Or.inl ⟨by rfl, ?_⟩) (by assumption) ?_
            rotate_left
            · (intro w hSw; (try dsimp only at hSw); go_simp; try with_reducible rfl)
            try simp only [List.getElem_toArray, List.getElem_cons_succ, List.getElem_cons_zero, Act.put, List.setIfInBounds_toArray, List.set_cons_zero, List.set_cons_succ]
            have y0 : w7.cell? ⟨sb, 0, none⟩ = some (.string { data := #[] }) := HKZ7.out.cell 0
            have z0 := HKZ7.out.frozen 0
            have y1 : w7.cell? ⟨sb, 1, none⟩ = some (.int .i64 0) := HKZ7.out.cell 1
            have z1 := HKZ7.out.frozen 1
            have y2 : w7.cell? ⟨sb, 2, none⟩ = some (.int .i64 0) := HKZ7.out.cell 2
            have z2 := HKZ7.out.frozen 2
            have y3 : w7.cell? ⟨sb, 3, none⟩ = some (.string { data := #[] }) := HKZ7.out.cell 3
            have z3 := HKZ7.out.frozen 3
            have y4 : w7.cell? ⟨sb, 4, none⟩ = some (.bool false) := HKZ7.out.cell 4
            have z4 := HKZ7.out.frozen 4
            have y5 : w7.cell? ⟨sb, 5, none⟩ = some (.int .i64 0) := HKZ7.out.cell 5
            have z5 := HKZ7.out.frozen 5
            have y6 : w7.cell? ⟨sb, 6, none⟩ = some (.int .i64 0) := HKZ7.out.cell 6
            have z6 := HKZ7.out.frozen 6
            have HPUT : Hid (_ ∧ _ ∧ Below w6.heap.size w6 (((((((w7.setCell ⟨sb, 0, none⟩ (.string (bstr s.ask.id))).setCell ⟨sb, 1, none⟩ (.int .i64 s.ask.kind)).setCell ⟨sb, 2, none⟩ (.int .i64 s.ask.at_)).setCell ⟨sb, 3, none⟩ (.string (bstr s.ask.pre))).setCell ⟨sb, 4, none⟩ (.bool s.granted)).setCell ⟨sb, 5, none⟩ (.int .i64 s.ended)).setCell ⟨sb, 6, none⟩ (.int .i64 s.end_))) := Lib.hid (put7 (v0 := .string (bstr s.ask.id)) (v1 := .int .i64 s.ask.kind) (v2 := .int .i64 s.ask.at_) (v3 := .string (bstr s.ask.pre)) (v4 := .bool s.granted) (v5 := .int .i64 s.ended) (v6 := .int .i64 s.end_) HKZ7.out HKX7.out (by have := HXQ.out; omega) HWQ.out HG7.out)
            refine wpAnyH_ready (rs := [10]) (by kernel_rfl) (by simp) ?_
            refine AllReadyH.cons rfl (fun K hK => ?_) AllReadyH.nil
            rw [if_pos (by rfl)]
            simp only [List.getElem_toArray, List.getElem_cons_succ, List.getElem_cons_zero]
            go_simp
            refine hK.out _ _ (KEEP.out _ HPUT.out.2.2) (fun hHeld => ?_)
            clear hK K
            try simp only [List.getElem_toArray, List.getElem_cons_succ, List.getElem_cons_zero, Act.put, List.setIfInBounds_toArray, List.set_cons_zero, List.set_cons_succ]
            refine wpAnyH_take (i := 11) (v := ?_) rfl (by kernel_rfl) (by kernel_rfl) (by kernel_rfl) (fun _ _ _ h => h) (Or.inl ⟨by rfl, ?_⟩) (by assumption) ?_
            rotate_left
            · (intro w hSw; (try dsimp only at hSw); go_simp; try with_reducible rfl)
            try simp only [List.getElem_toArray, List.getElem_cons_succ, List.getElem_cons_zero, Act.put, List.setIfInBounds_toArray, List.set_cons_zero, List.set_cons_succ]
            refine wpAnyH_done (by kernel_rfl) ?_ _
            clear y0 z0 y1 z1 y2 z2 y3 z3 y4 z4 y5 z5 y6 z6
            have HKS8 := Lib.hid HPUT.out.1
            have HKX8 := Lib.hid HPUT.out.2.1
            have HG8 := Lib.hid HPUT.out.2.2
            clear HPUT HKZ HKZ7 HKX7 HXQ HWQ
            clear hHeld
            have HB8 := Lib.hid (HB6.out.trans (HG8.out.mono HB6.out.size))
            clear HB6 HKX6 KEEP HG8 HGZ HG7 HG0 HSQ HSL
            generalize (((((((w7.setCell ⟨sb, 0, none⟩ (.string (bstr s.ask.id))).setCell ⟨sb, 1, none⟩ (.int .i64 s.ask.kind)).setCell ⟨sb, 2, none⟩ (.int .i64 s.ask.at_)).setCell ⟨sb, 3, none⟩ (.string (bstr s.ask.pre))).setCell ⟨sb, 4, none⟩ (.bool s.granted)).setCell ⟨sb, 5, none⟩ (.int .i64 s.ended)).setCell ⟨sb, 6, none⟩ (.int .i64 s.end_)) = w8 at *
            have x1 : w8.cell? ⟨xb, 1, none⟩ = some (.int .i64 x.kind) := HKX8.out.cell 1
            have s4 : w8.cell? ⟨sb, 4, none⟩ = some (.bool s.granted) := HKS8.out.cell 4
            have s5 : w8.cell? ⟨sb, 5, none⟩ = some (.int .i64 s.ended) := HKS8.out.cell 5
            have HK : Hid (x.kind ≠ 1) := Lib.hid (by simpa using HBB.out)
            have hkb : (x.kind == (1 : Int)) = false := by simpa using HBB.out
            have hkc : (x.kind != (1 : Int)) = true := HBB.out
            cases fd with
            | false =>
              have HF : Hid (appsFaultH l = 9) := Lib.hid (F1.out _ (HFO2.out.trans (by rw [if_neg (fun e => HK.out e.1), if_pos ⟨HK.out, rfl⟩])) (by decide))
              clear F1 HFO2 G5
              go_wp2_with fail
              go_ret
              exact ⟨by rw [HF.out]; rfl, HB8.out⟩
            | true =>
            by_cases hen : s.ended = 0
            case neg =>
              have HE := Lib.hid hen
              have hee : (s.ended != (0 : Int)) = true := by simpa using hen
              clear hen
              have HF : Hid (appsFaultH l = 11) := Lib.hid (F1.out _ (HFO2.out.trans (by rw [if_neg (fun e => HK.out e.1), if_neg (fun e => by cases e.2), if_pos ⟨HK.out, .inl HE.out⟩])) (by decide))
              clear F1 HFO2 G5
              go_wp2_with fail
              go_ret
              exact ⟨by rw [HF.out]; rfl, HB8.out⟩
            have HE := Lib.hid hen
            rw [hen] at s5
            clear hen
            cases hgr : s.granted with
            | false =>
              have HGR := Lib.hid hgr
              rw [hgr] at s4
              clear hgr
              have GN := Lib.hid (G5.out (HFO2.out.trans (by rw [if_neg (fun e => HK.out e.1), if_neg (fun e => by cases e.2), if_neg (fun e => by rcases e.2 with h | h; exact h HE.out; rw [HGR.out] at h; cases h.1)])))
              clear G5 F1 HFO2
              go_wp2_with fail
              clear x1 s4 s5
              go_roundw
              case rel => first | exact ⟨k + 1, by omega, by go_num, GN, HB8⟩ | (repeat (apply Exists.intro); (refine And.intro ?_ ?_; rotate_left; (repeat' (first | exact rfl | apply And.intro)); exact ⟨k + 1, by omega, by go_num, GN, HB8⟩))
              case measure => simp [intOf]; omega
            | true =>
            have HGR := Lib.hid hgr
            rw [hgr] at s4
            clear hgr
            by_cases h4 : x.kind = 4
            · have H4 := Lib.hid h4
              rw [h4] at x1
              clear h4
              have GN := Lib.hid (G5.out (HFO2.out.trans (by rw [if_neg (fun e => HK.out e.1), if_neg (fun e => by cases e.2), if_neg (fun e => by rcases e.2 with h | h; exact h HE.out; exact h.2 H4.out)])))
              clear G5 F1 HFO2
              go_wp2_with fail
              clear x1 s4 s5
              go_roundw
              case rel => first | exact ⟨k + 1, by omega, by go_num, GN, HB8⟩ | (repeat (apply Exists.intro); (refine And.intro ?_ ?_; rotate_left; (repeat' (first | exact rfl | apply And.intro)); exact ⟨k + 1, by omega, by go_num, GN, HB8⟩))
              case measure => simp [intOf]; omega
            · have H4 := Lib.hid h4
              have h4b : (x.kind != (4 : Int)) = true := by simpa using h4
              clear h4
              have HF : Hid (appsFaultH l = 11) := Lib.hid (F1.out _ (HFO2.out.trans (by rw [if_neg (fun e => HK.out e.1), if_neg (fun e => by cases e.2), if_pos ⟨HK.out, .inr ⟨HGR.out, H4.out⟩⟩])) (by decide))
              clear F1 HFO2 G5
              go_wp2_with fail
              go_ret
              exact ⟨by rw [HF.out]; rfl, HB8.out⟩
    · have HF : Hid (appsFaultH l = 0) := Lib.hid (hApps_3 h5 (fun j hj => HS.out j (by omega)))
      go_wp2_with fail
      go_ret
      exact ⟨by rw [HF.out]; rfl, HB.out⟩
end Go.Proofs.YtgbpnghgcffkbaaDoor
