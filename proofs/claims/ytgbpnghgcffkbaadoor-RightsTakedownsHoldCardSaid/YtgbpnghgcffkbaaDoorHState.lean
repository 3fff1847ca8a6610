/-
  'StateOf' of the reference of chapter 10.
-/
import Derived.Test.YtgbpnghgcffkbaaDoorHApps
namespace Go.Proofs.YtgbpnghgcffkbaaDoor
open Go.RowKit
set_option linter.unusedVariables false
set_option linter.unusedSimpArgs false

theorem hst_ok {l : List App} {id : List UInt8} {hold at_ v : Int} {n : Nat} {w w' : World} (ha : appsFault l = 0) (hf : stF l id hold at_ = 0) (hn : n ≤ l.length) (h1 : ∀ j, j < n → (l.getD j default).at_ ≤ at_) (h2 : n < l.length → at_ < (l.getD n default).at_) (hv : hVal (stpAt l id n) hold at_ = v) (hb : Below w.heap.size w w') : StPost l id hold at_ w (.returned (.tuple #[.int .i64 v, .int .i64 0])) w' :=
  st_ok hf (by rw [folV, if_pos ha, nowAt_eq (fol_ok ha) hn h1 h2, st_same (fun j hj => fol_ok ha j (by omega)), hv]) hb
theorem stpAt_at {l : List App} {id : List UInt8} {P : App → Prop} : ∀ k, (∀ j, j < k → P (l.getD j default)) → (stpAt l id k).2 = true → P (stpAt l id k).1.ask
  | 0, _, h => by cases h
  | k + 1, hP, h => by
    rw [stpAt, stpOne] at h ⊢
    have ih := stpAt_at (l := l) (id := id) k (fun j hj => hP j (by omega))
    split at h
    · rename_i e; rw [if_pos e]; exact ih h
    · rename_i e
      rw [if_neg e]
      split at h
      · rename_i e2; rw [if_pos e2]; exact hP k (by omega)
      · rename_i e2
        rw [if_neg e2]
        split at h
        · rename_i e3; rw [if_pos e3]; exact ih h
        · rename_i e3; rw [if_neg e3]; exact ih h
set_option maxRecDepth 100000 in
set_option maxHeartbeats 8000000 in
theorem hStateOf_any (v : Value) (l : List App) (id : List UInt8) (hold at_ : Int) (w : World) (h0 : (Rp.sl appRp).ok w (· < w.heap.size) [v] l) (hi : id.length ≤ 9223372036854775807) :
    Calls Tryd.prog 9 #[v, .string (bstr id), .int .i64 hold, .int .i64 at_] w (StPost l id hold at_ w) := by
  obtain ⟨A, cc, rfl, hl, hc, hnil⟩ := Rp.sl_open h0
  unfold maxLen at hc
  have H0 := Lib.hid h0
  clear h0
  go_enter Tryd.func9, Tryd.ntmps9
  go_wp2_with fail
  refine (hApps_any _ l w H0.out).mono ?_
  rintro e w1 ⟨rfl, hb⟩
  rw [← apps_same]
  have HB1 := Lib.hid hb
  clear hb
  by_cases ha : appsFault l = 0
  case neg =>
    have HF : Hid (stF l id hold at_ = appsFault l) := Lib.hid (stF_1 ha)
    have HN := Lib.hid ha
    have hn : (appsFault l != 0) = true := by simpa using ha
    clear ha
    generalize appsFault l = ff at *
    go_wp2_with fail
    go_ret2
    exact st_bad HF.out HN.out HB1.out
  have HA := Lib.hid ha
  rw [ha]
  clear ha
  go_wp2_with fail
  refine (hName_any id w1 hi).mono ?_
  rintro e w2 ⟨rfl, rfl⟩
  cases q1 : isNm id with
  | false =>
    have HF : Hid (stF l id hold at_ = 5) := Lib.hid (stF_2 HA.out q1)
    clear q1
    go_wp2_with fail
    go_ret2
    exact st_bad HF.out (by decide) HB1.out
  | true =>
  have Q1 := Lib.hid q1
  clear q1
  go_wp2_with fail
  refine (standing_any _ l id w2 (Rp.ext _ H0.out HB1.out)).mono ?_
  rintro e w3 ⟨rfl, hb⟩
  have HB3 := Lib.hid (HB1.out.trans (hb.mono HB1.out.size))
  clear hb HB1
  rw [← has_same (fol_ok HA.out)]
  have HB4 := Lib.hid (HB3.out.alloc HB3.out.size (.cells (stpCells (stpAt l id l.length).1).toArray 60))
  generalize stpAt l id l.length = st at *
  obtain ⟨s, fd⟩ := st
  try dsimp only [stpCells] at HB4
  try dsimp only [stpCells]
  cases q2 : hasId l id with
  | false =>
    have HF : Hid (stF l id hold at_ = 9) := Lib.hid (stF_3 HA.out Q1.out q2)
    clear q2
    go_wp2_with fail
    go_ret2
    exact st_bad HF.out (by decide) HB4.out
  | true =>
  have Q2 := Lib.hid q2
  clear q2
  go_wp2_with fail
  generalize w3.alloc (.cells #[.string (bstr s.ask.id), .int .i64 s.ask.kind, .int .i64 s.ask.at_, .string (bstr s.ask.pre), .bool s.granted, .int .i64 s.ended, .int .i64 s.end_] 60) = w4 at *
  clear HB3
  refine (hwithin_any hold 0 1000000000 w4).mono ?_
  rintro e w4' ⟨rfl, hw⟩
  subst hw
  cases q3 : withinB hold 0 1000000000 with
  | false =>
    have HF : Hid (stF l id hold at_ = 1) := Lib.hid (stF_4 HA.out Q1.out Q2.out (.inl q3))
    clear q3
    go_wp2_with fail
    go_ret2
    exact st_bad HF.out (by decide) HB4.out
  | true =>
  have Q3 := Lib.hid q3
  clear q3
  go_wp2_with fail
  refine (hwithin_any at_ 0 253402300799 _).mono ?_
  rintro e w4'' ⟨rfl, hw⟩
  subst hw
  cases q4 : withinB at_ 0 253402300799 with
  | false =>
    have HF : Hid (stF l id hold at_ = 1) := Lib.hid (stF_4 HA.out Q1.out Q2.out (.inr q4))
    clear q4
    go_wp2_with fail
    go_ret2
    exact st_bad HF.out (by decide) HB4.out
  | true =>
  have HF : Hid (stF l id hold at_ = 0) := Lib.hid (stF_5 HA.out Q1.out Q2.out Q3.out q4)
  have HHO : Hid (0 ≤ hold ∧ hold ≤ 1000000000) := Lib.hid (of_decide_eq_true Q3.out)
  clear q4 Q1 Q2 Q3
  generalize w4'' = w4 at *
  go_wp2_with fail
  go_loopw [13] (fun vi wr => ∃ k : Nat, k ≤ l.length ∧ vi = .int .i64 k ∧ Hid (∀ j, j < k → (l.getD j default).at_ ≤ at_) ∧ Hid (Below w.heap.size w wr)) (fun vi _ => l.length - (intOf vi).toNat)
  case atStart => exact ⟨0, by omega, rfl, Lib.hid (fun j hj => absurd hj (by omega)), HB4⟩
  case round =>
    obtain ⟨n, hk, rfl, HS, HB⟩ := hrel
    have goOn : n < l.length → (l.getD n default).at_ ≤ at_ → Hid (∀ j, j < n + 1 → (l.getD j default).at_ ≤ at_) := fun h1 h2 => Lib.hid (fun j hj => by
      rcases Nat.lt_or_ge j n with e | e
      · exact HS.out j e
      · obtain rfl : j = n := by omega
        exact h2)
    have GO := Lib.hid goOn
    clear goOn
    by_cases hlt : n < l.length
    · obtain ⟨ad, c', e1, hadb, c0, c1, c2, c3, hz⟩ := app_at (Rp.below _ H0.out HB.out) hlt
      cases e1
      clear hz c0 c1 c3
      have HG := Lib.hid (getD_at l default hlt)
      generalize hx : l[n] = x at *
      clear hx
      by_cases hat : x.at_ ≤ at_
      · have HGN := Lib.hid (GO.out hlt (by rw [HG.out]; exact hat))
        clear GO
        go_wp2_with fail
        go_roundw
        case rel => first | exact ⟨n + 1, by omega, by go_num, HGN, HB⟩ | (repeat (apply Exists.intro); (refine And.intro ?_ ?_; rotate_left; (repeat' (first | exact rfl | apply And.intro)); exact ⟨n + 1, by omega, by go_num, HGN, HB⟩))
        case measure => simp [intOf]; omega
      · have HC : Hid (n < l.length → at_ < (l.getD n default).at_) := Lib.hid (fun _ => by rw [HG.out]; omega)
        have HSL := Lib.hid (Rp.sl_part H0.out (Nat.zero_le n) hk)
        rw [if_neg (by omega), Nat.sub_zero, Nat.zero_mul, Nat.sub_zero, List.drop_zero] at HSL
        clear GO HG
        go_wp2_with fail
        clear c2 hat
        refine (standing_any _ (l.take n) id wr (by first | exact Rp.ext _ HSL.out HB.out | (have h := Rp.ext _ HSL.out HB.out; simpa [List.length_take, Nat.min_eq_left hk] using h))).mono ?_
        rintro e w5 ⟨rfl, hb⟩
        have HB5 := Lib.hid (HB.out.trans (hb.mono HB.out.size))
        clear hb HB
        rw [stp_part hk]
        have HRT : Hid (∀ v w', hVal (stpAt l id n) hold at_ = v → Below w.heap.size w w' → StPost l id hold at_ w (.returned (.tuple #[.int .i64 v, .int .i64 0])) w') := Lib.hid (fun v w' hv hb => hst_ok HA.out HF.out hk HS.out HC.out hv hb)
        have HRG : Hid ((stpAt l id n).2 = true → 0 ≤ (stpAt l id n).1.ask.at_ ∧ (stpAt l id n).1.ask.at_ ≤ 253402300799) := Lib.hid (fun h => stpAt_at (P := fun x => 0 ≤ x.at_ ∧ x.at_ ≤ 253402300799) n (fun j hj => at_in HA.out (by omega)) h)
        generalize stpAt l id n = st at *
        obtain ⟨s, fd⟩ := st
        have HB6 := Lib.hid (HB5.out.alloc HB5.out.size (.cells #[.string (bstr s.ask.id), .int .i64 s.ask.kind, .int .i64 s.ask.at_, .string (bstr s.ask.pre), .bool s.granted, .int .i64 s.ended, .int .i64 s.end_] 60))
        have HKS := Lib.hid (Blk.new w5 60 [.string (bstr s.ask.id), .int .i64 s.ask.kind, .int .i64 s.ask.at_, .string (bstr s.ask.pre), .bool s.granted, .int .i64 s.ended, .int .i64 s.end_])
        try dsimp only [stpCells]
        go_upto_region 15 with fail
        obtain ⟨sb, hsb⟩ : ∃ sb, sb = w5.heap.size := ⟨_, rfl⟩
        rw [← hsb] at HKS ⊢
        clear hsb HB5
        generalize w5.alloc (.cells #[.string (bstr s.ask.id), .int .i64 s.ask.kind, .int .i64 s.ask.at_, .string (bstr s.ask.pre), .bool s.granted, .int .i64 s.ended, .int .i64 s.end_] 60) = w6 at *
        cases fd with
        | false =>
          have HV := Lib.hid (HRT.out 1 _ (by simp [hVal]) HB6.out)
          clear HRT
          go_wp2_with fail
          go_ret2
          exact HV.out
        | true =>
        have HRG2 : Hid (0 ≤ s.ask.at_ ∧ s.ask.at_ ≤ 253402300799) := Lib.hid (HRG.out rfl)
        have s2 : w6.cell? ⟨sb, 2, none⟩ = some (.int .i64 s.ask.at_) := HKS.out.cell 2
        have s4 : w6.cell? ⟨sb, 4, none⟩ = some (.bool s.granted) := HKS.out.cell 4
        have s5 : w6.cell? ⟨sb, 5, none⟩ = some (.int .i64 s.ended) := HKS.out.cell 5
        by_cases e3 : s.ended = 3
        · have HV := Lib.hid (HRT.out 5 _ (by simp [hVal, e3]) HB6.out)
          have E3 := Lib.hid e3
          clear HRT
          rw [e3] at s5
          clear e3
          go_wp2_with fail
          go_ret2
          exact HV.out
        by_cases e4 : s.ended = 4
        · have HV := Lib.hid (HRT.out 6 _ (by simp [hVal, e4]) HB6.out)
          have E4 := Lib.hid e4
          clear HRT
          rw [e4] at s5
          clear e4 e3
          go_wp2_with fail
          go_ret2
          exact HV.out
        have h3b : (s.ended == (3 : Int)) = false := by simpa using e3
        have h4b : (s.ended == (4 : Int)) = false := by simpa using e4
        have HEE := Lib.hid (And.intro e3 e4)
        clear e3 e4
        cases hg : s.granted with
        | true =>
          have HV := Lib.hid (HRT.out 4 _ (by simp [hVal, HEE.out.1, HEE.out.2, hg]) HB6.out)
          clear HRT
          rw [hg] at s4
          have HGG := Lib.hid hg
          clear hg
          go_wp2_with fail
          go_ret2
          exact HV.out
        | false =>
        have hov : IntKind.i64.wrap (s.ask.at_ + hold) = s.ask.at_ + hold := IntWalk.i64_in _ (by have := HRG2.out; have := HHO.out; omega)
        rw [hg] at s4
        have HGG := Lib.hid hg
        clear hg
        by_cases hlate : at_ < s.ask.at_ + hold
        · have HV := Lib.hid (HRT.out 2 _ (by simp [hVal, HEE.out.1, HEE.out.2, HGG.out, hlate]) HB6.out)
          clear HRT
          go_wp2_with fail
          go_ret2
          exact HV.out
        · have HV := Lib.hid (HRT.out 3 _ (by simp [hVal, HEE.out.1, HEE.out.2, HGG.out, hlate]) HB6.out)
          clear HRT
          go_wp2_with fail
          go_ret2
          exact HV.out
    · obtain rfl : n = l.length := by omega
      have HC : Hid (l.length < l.length → at_ < (l.getD l.length default).at_) := Lib.hid (fun h => absurd h (by omega))
      have HSL := Lib.hid (Rp.sl_part H0.out (Nat.zero_le l.length) hk)
      rw [Nat.sub_zero, Nat.zero_mul, Nat.sub_zero, List.drop_zero] at HSL
      clear GO
      go_wp2_with fail
      refine (standing_any _ l id wr (Rp.ext _ H0.out HB.out)).mono ?_
      rintro e w5 ⟨rfl, hb⟩
      have HB5 := Lib.hid (HB.out.trans (hb.mono HB.out.size))
      clear hb HB
      have HRT : Hid (∀ v w', hVal (stpAt l id l.length) hold at_ = v → Below w.heap.size w w' → StPost l id hold at_ w (.returned (.tuple #[.int .i64 v, .int .i64 0])) w') := Lib.hid (fun v w' hv hb => hst_ok HA.out HF.out hk HS.out HC.out hv hb)
      have HRG : Hid ((stpAt l id l.length).2 = true → 0 ≤ (stpAt l id l.length).1.ask.at_ ∧ (stpAt l id l.length).1.ask.at_ ≤ 253402300799) := Lib.hid (fun h => stpAt_at (P := fun x => 0 ≤ x.at_ ∧ x.at_ ≤ 253402300799) l.length (fun j hj => at_in HA.out (by omega)) h)
      generalize stpAt l id l.length = st at *
      obtain ⟨s, fd⟩ := st
      have HB6 := Lib.hid (HB5.out.alloc HB5.out.size (.cells #[.string (bstr s.ask.id), .int .i64 s.ask.kind, .int .i64 s.ask.at_, .string (bstr s.ask.pre), .bool s.granted, .int .i64 s.ended, .int .i64 s.end_] 60))
      have HKS := Lib.hid (Blk.new w5 60 [.string (bstr s.ask.id), .int .i64 s.ask.kind, .int .i64 s.ask.at_, .string (bstr s.ask.pre), .bool s.granted, .int .i64 s.ended, .int .i64 s.end_])
      try dsimp only [stpCells]
      go_upto_region 15 with fail
      obtain ⟨sb, hsb⟩ : ∃ sb, sb = w5.heap.size := ⟨_, rfl⟩
      rw [← hsb] at HKS ⊢
      clear hsb HB5
      generalize w5.alloc (.cells #[.string (bstr s.ask.id), .int .i64 s.ask.kind, .int .i64 s.ask.at_, .string (bstr s.ask.pre), .bool s.granted, .int .i64 s.ended, .int .i64 s.end_] 60) = w6 at *
      cases fd with
      | false =>
        have HV := Lib.hid (HRT.out 1 _ (by simp [hVal]) HB6.out)
        clear HRT
        go_wp2_with fail
        go_ret2
        exact HV.out
      | true =>
      have HRG2 : Hid (0 ≤ s.ask.at_ ∧ s.ask.at_ ≤ 253402300799) := Lib.hid (HRG.out rfl)
      have s2 : w6.cell? ⟨sb, 2, none⟩ = some (.int .i64 s.ask.at_) := HKS.out.cell 2
      have s4 : w6.cell? ⟨sb, 4, none⟩ = some (.bool s.granted) := HKS.out.cell 4
      have s5 : w6.cell? ⟨sb, 5, none⟩ = some (.int .i64 s.ended) := HKS.out.cell 5
      by_cases e3 : s.ended = 3
      · have HV := Lib.hid (HRT.out 5 _ (by simp [hVal, e3]) HB6.out)
        have E3 := Lib.hid e3
        clear HRT
        rw [e3] at s5
        clear e3
        go_wp2_with fail
        go_ret2
        exact HV.out
      by_cases e4 : s.ended = 4
      · have HV := Lib.hid (HRT.out 6 _ (by simp [hVal, e4]) HB6.out)
        have E4 := Lib.hid e4
        clear HRT
        rw [e4] at s5
        clear e4 e3
        go_wp2_with fail
        go_ret2
        exact HV.out
      have h3b : (s.ended == (3 : Int)) = false := by simpa using e3
      have h4b : (s.ended == (4 : Int)) = false := by simpa using e4
      have HEE := Lib.hid (And.intro e3 e4)
      clear e3 e4
      cases hg : s.granted with
      | true =>
        have HV := Lib.hid (HRT.out 4 _ (by simp [hVal, HEE.out.1, HEE.out.2, hg]) HB6.out)
        clear HRT
        rw [hg] at s4
        have HGG := Lib.hid hg
        clear hg
        go_wp2_with fail
        go_ret2
        exact HV.out
      | false =>
      have hov : IntKind.i64.wrap (s.ask.at_ + hold) = s.ask.at_ + hold := IntWalk.i64_in _ (by have := HRG2.out; have := HHO.out; omega)
      rw [hg] at s4
      have HGG := Lib.hid hg
      clear hg
      by_cases hlate : at_ < s.ask.at_ + hold
      · have HV := Lib.hid (HRT.out 2 _ (by simp [hVal, HEE.out.1, HEE.out.2, HGG.out, hlate]) HB6.out)
        clear HRT
        go_wp2_with fail
        go_ret2
        exact HV.out
      · have HV := Lib.hid (HRT.out 3 _ (by simp [hVal, HEE.out.1, HEE.out.2, HGG.out, hlate]) HB6.out)
        clear HRT
        go_wp2_with fail
        go_ret2
        exact HV.out
end Go.Proofs.YtgbpnghgcffkbaaDoor
