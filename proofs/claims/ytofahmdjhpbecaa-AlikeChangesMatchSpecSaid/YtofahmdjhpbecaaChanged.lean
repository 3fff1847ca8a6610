/-
  'Changed' of both packages.
-/
import Derived.Test.YtofahmdjhpbecaaProg
import Derived.Test.YtofahmdjhpbecaaChg3
import Derived.Test.YtofahmdjhpbecaaChgCnt
import Derived.Test.YtofahmdjhpbecaaRatio
namespace Go.Proofs.Ytofahmdjhpbecaa
open Go.RowKit
set_option linter.unusedVariables false
set_option linter.unusedSimpArgs false

/-- The ratio of the lines that go or come. -/
def ratC (a b : List UInt8) : Value :=
  if chgOk a b then (if (linesL a).length + (linesL b).length = 0 then .agg #[.int .i64 0, .int .i64 1] else ratV ((linesL a).length + (linesL b).length - 2 * lcs (linesL a) (linesL b)) ((linesL a).length + (linesL b).length)) else .agg #[.int .i64 0, .int .i64 0]
def ChangedPost (a b : List UInt8) (w : World) (e : Ending) (w' : World) : Prop := e = .returned (.tuple #[ratC a b, .int .i64 (chgFault a b)]) ∧ Below w.heap.size w w'
theorem ratC_bad {a b : List UInt8} (h : chgOk a b = false) : ratC a b = .agg #[.int .i64 0, .int .i64 0] := by rw [ratC, h]; rfl
theorem ratC_none {a b : List UInt8} (h : chgOk a b = true) (h0 : (linesL a).length + (linesL b).length = 0) : ratC a b = .agg #[.int .i64 0, .int .i64 1] := by rw [ratC, if_pos h, if_pos h0]
theorem ratC_some {a b : List UInt8} (h : chgOk a b = true) (h0 : ¬ (linesL a).length + (linesL b).length = 0) : ratC a b = ratV ((linesL a).length + (linesL b).length - 2 * lcs (linesL a) (linesL b)) ((linesL a).length + (linesL b).length) := by rw [ratC, if_pos h, if_neg h0]

set_option maxRecDepth 100000 in
set_option maxHeartbeats 1000000 in
theorem changed_any (a b : List UInt8) (w : World) (ha : a.length ≤ maxLen) (hb : b.length ≤ maxLen) : Calls Try.prog 39 #[.string (bstr a), .string (bstr b)] w (ChangedPost a b w) := by
  have hk0 := Blk.new w 62 [.int .i64 0, .int .i64 0]
  have hal := (Below.refl w.heap.size w).alloc (Nat.le_refl _) (.cells #[.int .i64 0, .int .i64 0] 62)
  have HK0 := Lib.hid hk0
  have HAL := Lib.hid hal
  clear hk0 hal
  cases hok : chgOk a b with
  | false =>
    have hf : chgFault a b = 2 := by rw [chgFault, hok]; rfl
    have HF := Lib.hid hf
    have HR := Lib.hid (ratC_bad hok)
    clear hf hok
    go_enter Try.func39, Try.ntmps39
    go_wp2_with fail
    refine (both_any a b _ ha hb).mono ?_
    rintro e w1 ⟨v1, v2, rfl, hv1, hv2, hb1⟩
    have hk1 := HK0.out.same (same_below hb1) (by simp)
    have c0 := hk1.cell 0
    have c1 := hk1.cell 1
    have f0 := hk1.frozen 0
    have f1 := hk1.frozen 1
    have HB1 := Lib.hid (ext_trans HAL.out hb1)
    clear hv1 hv2 hb1 hk1
    rw [HF.out]
    go_wp2
    exact bodyPost_ret (v := .tuple #[.agg #[.int .i64 0, .int .i64 0], .int .i64 2]) (by simp [results, Try.results39, go_sem, c0, c1]) rfl ⟨by rw [HR.out, HF.out], (HB1.out.setCell (Nat.le_refl _) _).setCell (Nat.le_refl _) _⟩
  | true =>
    obtain ⟨h1, h2, h3, h4⟩ := chgOk_of hok
    have hf : chgFault a b = 0 := by rw [chgFault, hok]; rfl
    have e1 : bothL a b a = linesL a := by rw [bothL, hok]; rfl
    have e2 : bothL a b b = linesL b := by rw [bothL, hok]; rfl
    have HE1 := Lib.hid e1
    have HE2 := Lib.hid e2
    have HF := Lib.hid hf
    have HOK := Lib.hid hok
    clear hok e1 e2 hf
    go_enter Try.func39, Try.ntmps39
    go_wp2_with fail
    refine (both_any a b _ ha hb).mono ?_
    rintro e w1 ⟨v1, v2, rfl, hv1, hv2, hb1⟩
    rw [HE1.out] at hv1
    rw [HE2.out] at hv2
    have HK1 := Lib.hid (HK0.out.same (same_below hb1) (by simp))
    have HB1 := Lib.hid (ext_trans HAL.out hb1)
    clear hb1
    rw [HF.out]
    have HV1 := Lib.hid hv1
    have HV2 := Lib.hid hv2
    obtain ⟨A1, c1, rfl, _⟩ := Rp.sl_open hv1
    obtain ⟨A2, c2, rfl, _⟩ := Rp.sl_open hv2
    clear hv1 hv2
    rw [List.length_map] at *
    rw [List.length_map] at *
    by_cases h0 : (linesL a).length + (linesL b).length = 0
    · have HR := Lib.hid (ratC_none HOK.out h0)
      have n1 : (linesL a).length = 0 := by omega
      have n2 : (linesL b).length = 0 := by omega
      rw [n1, n2] at *
      have c0 := HK1.out.cell 0
      have c1' := HK1.out.cell 1
      have f0 := HK1.out.frozen 0
      have f1 := HK1.out.frozen 1
      clear n1 n2 h0
      go_wp2
      exact bodyPost_ret (v := .tuple #[.agg #[.int .i64 0, .int .i64 1], .int .i64 0]) (by simp [results, Try.results39, go_sem, c0, c1']) rfl ⟨by rw [HR.out, HF.out], (HB1.out.setCell (Nat.le_refl _) _).setCell (Nat.le_refl _) _⟩
    · have HR := Lib.hid (ratC_some HOK.out h0)
      have hne : (((linesL a).length : Int) + ((linesL b).length : Int) == 0) = false := by rw [beq_eq_false_iff_ne]; omega
      obtain ⟨n, hn⟩ : ∃ n, (linesL a).length = n := ⟨_, rfl⟩
      obtain ⟨m, hm⟩ : ∃ m, (linesL b).length = m := ⟨_, rfl⟩
      rw [hn, hm] at h0 hne HR
      rw [hn] at h3 HV1 ⊢
      rw [hm] at h4 HV2 ⊢
      have HN := Lib.hid hn
      have HM := Lib.hid hm
      clear hn hm
      go_wp2_with fail
      refine (stay_any _ _ _ _ w1 HV1.out HV2.out (by rw [HN.out]; exact h3) (by rw [HM.out]; exact h4)).mono ?_
      rintro e w2 ⟨vt, rfl, ht, hb2⟩
      obtain ⟨AT, cT, rfl, _⟩ := Rp.sl_open ht
      obtain ⟨adm, adi, ci, rfl, -, hti, -, -, htk⟩ := tab_row ht (i := 0) (Nat.zero_le _)
      have htv := htk 0 (Nat.zero_le _)
      rw [add_nil] at hti htv
      rw [HM.out] at hti
      have hL := lcs_le (linesL a) (linesL b)
      rw [HN.out, HM.out] at hL
      obtain ⟨hL1, hL2⟩ := hL
      have htv2 : w2.cell? adi = some (.int .i64 (lcs (linesL a) (linesL b) : Nat)) := htv
      rw [show (lcsTab (linesL a) (linesL b)).length = n + 1 by simp [lcsTab, HN.out]]
      have HK2 := Lib.hid (HK1.out.same (same_below hb2) HK1.out.lt)
      have HB2 := Lib.hid (ext_trans HB1.out hb2)
      clear ht htk htv hb2 HE1 HE2
      generalize lcs (linesL a) (linesL b) = L at *
      go_wp2_with fail
      rw [show ((n : Int) + (m : Int) - 2 * (L : Int)) = ((n + m - 2 * L : Nat) : Int) by omega, show ((n : Int) + (m : Int)) = ((n + m : Nat) : Int) by omega]
      refine (ratio_any (n + m - 2 * L) (n + m) w2 (by omega) (by omega) (by omega)).mono ?_
      rintro e w3 ⟨rfl, hb3⟩
      have hk3 := HK2.out.same (same_below hb3) HK2.out.lt
      have c0 := hk3.cell 0
      have c1' := hk3.cell 1
      have f0 := hk3.frozen 0
      have f1 := hk3.frozen 1
      have HB3 := Lib.hid (ext_trans HB2.out hb3)
      obtain ⟨p, hp⟩ : ∃ p : Nat, (n + m - 2 * L) / Nat.gcd (n + m - 2 * L) (n + m) = p := ⟨_, rfl⟩
      obtain ⟨q, hq⟩ : ∃ q : Nat, (n + m) / Nat.gcd (n + m - 2 * L) (n + m) = q := ⟨_, rfl⟩
      have hv : ratV (n + m - 2 * L) (n + m) = .agg #[.int .i64 p, .int .i64 q] := by rw [ratV, hp, hq]
      rw [hv] at HR ⊢
      clear hk3 hb3 hp hq hv hti htv2
      go_wp2
      exact bodyPost_ret (v := .tuple #[.agg #[.int .i64 p, .int .i64 q], .int .i64 0]) (by simp [results, Try.results39, go_sem, c0, c1']) rfl ⟨by rw [HR.out, HF.out], (HB3.out.setCell (Nat.le_refl _) _).setCell (Nat.le_refl _) _⟩

set_option maxRecDepth 100000 in
set_option maxHeartbeats 1000000 in
theorem refChanged_any (a b : List UInt8) (w : World) (ha : a.length ≤ maxLen) (hb : b.length ≤ maxLen) : Calls Try.prog 40 #[.string (bstr a), .string (bstr b)] w (ChangedPost a b w) := by
  have hk0 := Blk.new w 62 [.int .i64 0, .int .i64 0]
  have hal := (Below.refl w.heap.size w).alloc (Nat.le_refl _) (.cells #[.int .i64 0, .int .i64 0] 62)
  have HK0 := Lib.hid hk0
  have HAL := Lib.hid hal
  clear hk0 hal
  cases hok : chgOk a b with
  | false =>
    have hf : chgFault a b = 2 := by rw [chgFault, hok]; rfl
    have HF := Lib.hid hf
    have HR := Lib.hid (ratC_bad hok)
    clear hf hok
    go_enter Try.func40, Try.ntmps40
    go_wp2_with fail
    refine (refChanges_any a b _ ha hb).mono ?_
    rintro e w1 ⟨v1, rfl, hv1, hb1⟩
    have hk1 := HK0.out.same (same_below hb1) (by simp)
    have c0 := hk1.cell 0
    have c1 := hk1.cell 1
    have f0 := hk1.frozen 0
    have f1 := hk1.frozen 1
    have HB1 := Lib.hid (ext_trans HAL.out hb1)
    clear hv1 hb1 hk1
    rw [HF.out]
    go_wp2
    exact bodyPost_ret (v := .tuple #[.agg #[.int .i64 0, .int .i64 0], .int .i64 2]) (by simp [results, Try.results40, go_sem, c0, c1]) rfl ⟨by rw [HR.out, HF.out], (HB1.out.setCell (Nat.le_refl _) _).setCell (Nat.le_refl _) _⟩
  | true =>
    obtain ⟨h1, h2, h3, h4⟩ := chgOk_of hok
    have hf : chgFault a b = 0 := by rw [chgFault, hok]; rfl
    have e1 : chgL a b = changesL (linesL a) (linesL b) := by rw [chgL, hok]; rfl
    have HE1 := Lib.hid e1
    have HF := Lib.hid hf
    have HOK := Lib.hid hok
    have hsum := @changes_sums (linesL a) (linesL b)
    obtain ⟨hs1, hs2⟩ := hsum
    have HS1 := Lib.hid hs1
    have HS2 := Lib.hid hs2
    have hmono := cnt_mono (changesL (linesL a) (linesL b))
    rw [hs1, hs2] at hmono
    have HMN : Hid (∀ k, cntAll ((changesL (linesL a) (linesL b)).take k) ≤ 800 ∧ cntOff ((changesL (linesL a) (linesL b)).take k) ≤ 800) := fun k => by have := hmono k; omega
    clear hok e1 hf hs1 hs2 hmono
    go_enter Try.func40, Try.ntmps40
    go_wp2_with fail
    refine (refChanges_any a b _ ha hb).mono ?_
    rintro e w1 ⟨v1, rfl, hv1, hb1⟩
    rw [HE1.out] at hv1
    have HK1 := Lib.hid (HK0.out.same (same_below hb1) (by simp))
    have HB1 := Lib.hid (ext_trans HAL.out hb1)
    clear hb1 HE1
    rw [HF.out]
    have HV1 := Lib.hid hv1
    obtain ⟨A1, c1, rfl, hlc, hlm, _⟩ := Rp.sl_open hv1
    clear hv1
    unfold maxLen at hlm
    generalize hl : changesL (linesL a) (linesL b) = l at *
    clear hl
    go_wp2
    go_loopw [8, 9, 24] (fun vn va i wr => ∃ k : Nat, k ≤ l.length ∧ i = .int .i64 k ∧ vn = .int .i64 (cntOff (l.take k) : Nat) ∧ va = .int .i64 (cntAll (l.take k) : Nat) ∧ Hid (Below w1.heap.size w1 wr)) (fun _ _ i _ => l.length - (intOf i).toNat)
    case atStart => exact ⟨0, by omega, rfl, rfl, rfl, Below.refl _ _⟩
    case round =>
      obtain ⟨k, hk, rfl, rfl, rfl, HW⟩ := hrel
      have hwsz := HW.out.size
      have hm1 := HMN.out k
      obtain ⟨hm1, hm2⟩ := hm1
      by_cases hlt : k < l.length
      · obtain ⟨ad, us, rfl, _, _, hu, hcell⟩ := Rp.sl_at (Rp.below _ HV1.out HW.out) hlt
        obtain ⟨vb, rfl, hvb, hw1⟩ := ch_open hu
        have c0 : wr.cell? (ad.add (k * 2)) = some (.int .i64 l[k].kind) := hcell 0 _ rfl
        have c1 := hcell 1 _ rfl
        rw [add_fld _ _ _ (by omega)] at c1
        change wr.cell? ⟨(ad.add (k * 2)).block, (ad.add (k * 2)).off + 1, none⟩ = some vb at c1
        obtain ⟨A3, c3, rfl, hl3, hc3, _⟩ := Rp.sl_open hvb
        unfold maxLen at hc3
        rw [List.length_map] at *
        have hm2 := HMN.out (k + 1)
        obtain ⟨hm3, hm4⟩ := hm2
        have hsa := cntAll_succ l k hlt
        have hso := cntOff_succ l k hlt
        rw [hsa] at hm3
        rw [hso] at hm4
        have HHB := Lib.hid (HW.out.alloc hwsz (.cells #[.int .i64 l[k].kind, .slice A3 l[k].ls.length c3] 109))
        clear hcell hu hvb hw1
        by_cases hkd : l[k].kind = 1
        · rw [if_pos hkd] at hsa hso hm3 hm4
          have HSA := Lib.hid hsa
          have HSO := Lib.hid hso
          rw [hkd] at c0 HHB
          clear hsa hso hkd
          generalize l[k].ls.length = x at *
          generalize cntAll (l.take k) = y at *
          generalize cntOff (l.take k) = z at *
          go_wp2
          go_roundw
          case rel => exact ⟨k + 1, by omega, by go_num, by rw [HSO.out]; go_num, by rw [HSA.out]; go_num, HHB⟩
          case measure => simp [intOf]; omega
        · rw [if_neg hkd] at hsa hso hm3 hm4
          have HSA := Lib.hid hsa
          have HSO := Lib.hid hso
          have hkd2 : (l[k].kind == 1) = false := by rw [beq_eq_false_iff_ne]; exact hkd
          clear hsa hso hkd
          generalize l[k].ls.length = x at *
          generalize cntAll (l.take k) = y at *
          generalize cntOff (l.take k) = z at *
          go_wp2
          go_roundw
          case rel => exact ⟨k + 1, by omega, by go_num, by rw [HSO.out]; go_num, by rw [HSA.out]; go_num, HHB⟩
          case measure => simp [intOf]; omega
      · obtain rfl : k = l.length := by omega
        rw [List.take_length, HS1.out, HS2.out]
        have hL := lcs_le (linesL a) (linesL b)
        have hkw := HK1.out.same (same_below HW.out) HK1.out.lt
        have HKW := Lib.hid hkw
        have HBW := Lib.hid (ext_trans HB1.out HW.out)
        clear hkw hm1 hm2 hlt
        by_cases h0 : (linesL a).length + (linesL b).length = 0
        · have HR := Lib.hid (ratC_none HOK.out h0)
          rw [h0]
          have c0 := HKW.out.cell 0
          have c1' := HKW.out.cell 1
          have f0 := HKW.out.frozen 0
          have f1 := HKW.out.frozen 1
          clear h0 hL
          go_wp2
          exact bodyPost_ret (v := .tuple #[.agg #[.int .i64 0, .int .i64 1], .int .i64 0]) (by simp [results, Try.results40, go_sem, c0, c1']) rfl ⟨by rw [HR.out, HF.out], (HBW.out.setCell (Nat.le_refl _) _).setCell (Nat.le_refl _) _⟩
        · have HR := Lib.hid (ratC_some HOK.out h0)
          generalize lcs (linesL a) (linesL b) = L at *
          generalize (linesL a).length = n at *
          generalize (linesL b).length = m at *
          obtain ⟨N, hN⟩ : ∃ N, n + m = N := ⟨_, rfl⟩
          obtain ⟨M, hM⟩ : ∃ M, N - 2 * L = M := ⟨_, rfl⟩
          have hN1 : N ≤ 800 := by omega
          have hM1 : M ≤ 800 := by omega
          have hN0 : 0 < N := by omega
          rw [hN] at HR ⊢
          rw [hM] at HR ⊢
          clear hN hM h0 hL
          have hne : ((N : Int) == 0) = false := by rw [beq_eq_false_iff_ne]; omega
          go_wp2_with fail
          refine (refRatio_any M N wr (by omega) (by omega) (by omega)).mono ?_
          rintro e w3 ⟨rfl, hb3⟩
          have hk3 := HKW.out.same (same_below hb3) HKW.out.lt
          have c0 := hk3.cell 0
          have c1' := hk3.cell 1
          have f0 := hk3.frozen 0
          have f1 := hk3.frozen 1
          have HB3 := Lib.hid (ext_trans HBW.out hb3)
          obtain ⟨p, hp⟩ : ∃ p : Nat, M / Nat.gcd M N = p := ⟨_, rfl⟩
          obtain ⟨q, hq⟩ : ∃ q : Nat, N / Nat.gcd M N = q := ⟨_, rfl⟩
          have hv : ratV M N = .agg #[.int .i64 p, .int .i64 q] := by rw [ratV, hp, hq]
          rw [hv] at HR ⊢
          clear hk3 hb3 hp hq hv
          go_wp2
          exact bodyPost_ret (v := .tuple #[.agg #[.int .i64 p, .int .i64 q], .int .i64 0]) (by simp [results, Try.results40, go_sem, c0, c1']) rfl ⟨by rw [HR.out, HF.out], (HB3.out.setCell (Nat.le_refl _) _).setCell (Nat.le_refl _) _⟩
end Go.Proofs.Ytofahmdjhpbecaa
