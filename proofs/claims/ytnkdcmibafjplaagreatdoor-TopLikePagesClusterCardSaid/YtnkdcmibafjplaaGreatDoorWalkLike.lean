/-
  The law 'TopLikePagesCluster' walked: it returns true.
-/
import Derived.Test.YtnkdcmibafjplaaGreatDoorLikeP
import Derived.Test.YtnkdcmibafjplaaGreatDoorSameN
import Derived.Test.YtnkdcmibafjplaaGreatDoorAddrAll
namespace Go.Proofs.YtnkdcmibafjplaaGreatDoor
open Go.RowKit
set_option linter.unusedVariables false
set_option linter.unusedSimpArgs false

set_option maxRecDepth 100000 in
set_option maxHeartbeats 8000000 in
theorem likeLaw_any (v0 : Value) (l : List ByteArray) (v1 : Value) (n : Int) (cs2 : Array Value) (p : Int × Int) (w : World) (h0 : (Rp.sl Rp.str).ok w (· < w.heap.size) [v0] l) (f0 : (Rp.sl Rp.str).fits l)
    (h1 : (Rp.int .i64).ok w (· < w.heap.size) [v1] n) (f1 : (Rp.int .i64).fits n) (h2 : ratRp.ok w (· < w.heap.size) cs2.toList p) (f2 : ratRp.fits p) (hG : GInt w) :
    Calls Tryz.prog 3 #[v0, v1, .agg cs2] w fun e w' => e = .returned (.bool true) ∧ Below w.heap.size w w' := by
  obtain rfl := rat_open h2
  obtain ⟨num, den⟩ := p
  obtain ⟨e1, z1⟩ := h1
  injection e1 with e1
  subst e1
  obtain ⟨ls, rfl⟩ : ∃ ls : List (List UInt8), l = ls.map bstr := ⟨_, (strs_back l).symm⟩
  clear f0 f1 f2 z1 h2
  have hal : Below w.heap.size w (w.alloc (.cells #[.int .i64 num, .int .i64 den] 24)) := (Below.refl _ _).alloc (Nat.le_refl _) _
  have HK0 : Hid (Blk (w.alloc (.cells #[.int .i64 num, .int .i64 den] 24)) w.heap.size 24 [.int .i64 num, .int .i64 den]) := Lib.hid (Blk.new w _ _)
  have HA := Lib.hid hal
  have H0 := Lib.hid (Rp.ext _ h0 hal)
  have HG0 := Lib.hid (hG.ext hal)
  clear hal h0 hG
  have c0 : _ = some (Value.int .i64 num) := HK0.out.cell 0
  have c1 : _ = some (Value.int .i64 den) := HK0.out.cell 1
  go_enter Tryz.func3, Tryz.ntmps3
  go_wp2_with fail
  clear c0 c1
  generalize w.alloc (.cells #[.int .i64 num, .int .i64 den] 24) = w0 at *
  obtain ⟨rb, hrb⟩ : ∃ rb, w.heap.size = rb := ⟨_, rfl⟩
  rw [hrb] at HK0 ⊢
  clear hrb
  refine (clus_any v0 ls n num den w0 H0.out).mono ?_
  rintro e w1 ⟨v, rfl, hn, hb⟩
  have HR1 := Lib.hid (nat_read hn clO_small)
  have HB1 := Lib.hid (ext_trans HA.out hb)
  have HK1 := Lib.hid (HK0.out.same (same_below hb) HK0.out.lt)
  have H1 := Lib.hid (Rp.ext _ H0.out hb)
  have HG1 := Lib.hid (HG0.out.ext hb)
  clear hn hb HA HK0 H0 HG0
  by_cases hf : clF ls n num den = 0
  case neg =>
    have hO : clO ls n num den = [] := if_neg hf
    rw [hO] at HR1
    obtain ⟨A, c, rfl, _⟩ := Rp.sl_open HR1.out
    have hf1 : (clF ls n num den != 0) = true := by rw [bne_iff_ne]; exact hf
    generalize clF ls n num den = f at *
    clear hf hO HR1
    go_wp2_with fail
    refine (lives_any _ HG1.out).mono ?_
    rintro e w3 ⟨rfl, hb3⟩
    have HB3 := Lib.hid (ext_trans HB1.out hb3)
    clear hb3
    go_wp2_with fail
    go_ret
    exact ⟨rfl, HB3.out⟩
  case pos =>
  obtain ⟨g1, g2, _, _, _⟩ := clF_good hf
  have HF2 := Lib.hid (clF_tidy hf)
  have HO2 := Lib.hid (clO_tidy hf)
  have HT := Lib.hid g1
  rw [hf]
  obtain ⟨Av, cv, rfl, hvl, hvc, _⟩ := Rp.sl_open HR1.out
  obtain ⟨A0, c0, rfl, hl0, hc0, _⟩ := Rp.sl_open H1.out
  rw [List.length_map] at H1 hl0 ⊢
  unfold maxLen at hvc hc0
  clear hf g1
  go_wp2_with fail
  go_loopw [9, 10] (fun vs vi wr => ∃ (i : Nat) (v : Value), i ≤ ls.length ∧ v = vs ∧ vi = .int .i64 i ∧ Hid (Below w1.heap.size w1 wr) ∧ Hid (wr.ownsRow w1.heap.size 9 1 v ((ls.take i).map tidyL).length (strs ((ls.take i).map tidyL)))) (fun _ vi _ => ls.length - (intOf vi).toNat)
  case atStart => exact ⟨0, _, by omega, rfl, rfl, Below.refl _ _, Lib.hid (World.ownsRow_nil _ _ _ _)⟩
  case round =>
    obtain ⟨i, v, hi, rfl, rfl, HB, HO⟩ := hrel
    by_cases hlt : i < ls.length
    · have hlt' : (i : Int) < (ls.length : Int) := by omega
      obtain ⟨ad, u, hA0, hadb, hu, hcell⟩ := Rp.sl_at1 rfl (Rp.ext _ H1.out HB.out) (k := i) (by rw [List.length_map]; exact hlt)
      subst hA0
      obtain ⟨e1, _⟩ := hu
      injection e1 with e1
      subst e1
      rw [List.getElem_map] at hcell
      have htl := HT.out ls[i] (List.getElem_mem hlt)
      have hwr := HB.out.size
      have HTK : Hid ((ls.take (i + 1)).map tidyL = (ls.take i).map tidyL ++ [tidyL ls[i]]) := Lib.hid (by rw [List.take_succ_eq_append_getElem hlt, List.map_append]; rfl)
      have hLl : ((ls.take i).map tidyL).length ≤ 60 := by rw [List.length_map, List.length_take]; omega
      generalize ls[i] = t at *
      generalize (ls.take i).map tidyL = L at *
      go_wp2_with fail
      clear hcell
      refine (safeTop_any t wr htl).mono ?_
      rintro e w2 ⟨rfl, hb2⟩
      have HB2 := Lib.hid (ext_trans HB.out hb2)
      have HO2' := Lib.hid (own_belowT HO.out hb2)
      have hw2 : w1.heap.size ≤ w2.heap.size := HB2.out.size
      clear hb2 HB HO hwr
      have hct := cat_page (safeL t)
      have hz0 : (bstr (safeL t)).size ≤ 200000 := by rw [bstr_size]; have := (safeL_len t).2; omega
      have hz1 : ¬ 9223372036854775807 < (ByteArray.mk #[60, 112, 62]).size + (bstr (safeL t)).size := by have : (ByteArray.mk #[60, 112, 62]).size = 3 := rfl; omega
      have hz2 : ¬ 9223372036854775807 < 3 + (bstr (safeL t)).size := by omega
      have hz3 : ¬ 9223372036854775807 < (ByteArray.mk #[60, 112, 62]).size + (bstr (safeL t)).size + (ByteArray.mk #[60, 47, 112, 62]).size := by have : (ByteArray.mk #[60, 112, 62]).size = 3 := rfl; have : (ByteArray.mk #[60, 47, 112, 62]).size = 4 := rfl; omega
      have hz4 : ¬ 9223372036854775807 < 3 + (bstr (safeL t)).size + 4 := by omega
      have hpl : (pgL (safeL t)).length ≤ 140737488355327 := by rw [pgL_len]; have := (safeL_len t).2; omega
      obtain ⟨c3, w3, hcv, hr3, hb3⟩ := conv_str (P := Tryz.prog) w2 9 33 5 (pgL (safeL t)) Tryz.underlying9 Tryz.underlying33 Tryz.underlying5 (by unfold maxLen; omega)
      have HR3 := Lib.hid (u8_lt hr3 (by unfold pgL; simp))
      have hb23 := hb3 w2.heap.size w2 (Nat.le_refl _) (Below.refl _ _)
      have HB3 := Lib.hid (ext_trans HB2.out hb23)
      have HO3 := Lib.hid (own_belowT HO2'.out hb23)
      clear hr3 hb3 hb23
      go_wp2_with fail
      clear hct hz0 hz1 hz2 hz3 hz4 hpl hcv
      refine (said_any t htl _ w3 HR3.out).mono ?_
      rintro e w4 ⟨rfl, hb4⟩
      have HB4 := Lib.hid (ext_trans HB3.out hb4)
      have HO4 := Lib.hid (own_belowT HO3.out hb4)
      have hw4 : w1.heap.size ≤ w4.heap.size := HB4.out.size
      clear hb4 HB2 HO2' HB3 HO3 HR3 hw2
      go_wp2_with (at_builtin; refine app_str (b := bstr (tidyL t)) rfl (.tmp 57) (.tmp 59) rfl HO4.out hw4 rfl rfl (by omega) ?_; intro g1 cc1 w9 HO9 HG9 HB9 HL9)
      go_roundw
      case rel => first | exact ⟨i + 1, _, by omega, rfl, by go_num, Lib.hid (HB9.out _ HB4.out), Lib.hid (by rw [HTK.out, List.length_append, List.length_singleton, strs_snoc]; exact HO9.out)⟩ | (repeat (apply Exists.intro); (refine And.intro ?_ ?_; rotate_left; (repeat' (first | exact rfl | apply And.intro)); exact ⟨i + 1, _, by omega, rfl, by go_num, Lib.hid (HB9.out _ HB4.out), Lib.hid (by rw [HTK.out, List.length_append, List.length_singleton, strs_snoc]; exact HO9.out)⟩))
      case measure => simp [intOf]; omega
    · obtain rfl : i = ls.length := by omega
      rw [List.take_length] at HO
      have HBW := Lib.hid (ext_trans HB1.out HB.out)
      have HGW := Lib.hid (HG1.out.ext HB.out)
      have HKW := Lib.hid (HK1.out.same (same_below HB.out) HK1.out.lt)
      have HRW := Lib.hid (Rp.ext _ HR1.out HB.out)
      have hrd : (Rp.sl Rp.str).ok wr (· < wr.heap.size) [v] ((ls.map tidyL).map bstr) := by
        have h1 := HO.out
        have e1 : strs (ls.map tidyL) = ((ls.map tidyL).map bstr).map Value.string := by unfold strs; rw [List.map_map, List.map_map, List.map_map]; rfl
        have e2 : (ls.map tidyL).length = ((ls.map tidyL).map bstr).length := by simp
        rw [e1, e2] at h1
        refine Rp.of_own1 rfl h1 (fun g hg => (h1.lt g hg).2) (fun a ha => ⟨rfl, ?_⟩)
        obtain ⟨s, hs, rfl⟩ := List.mem_map.1 ha
        obtain ⟨t, ht, rfl⟩ := List.mem_map.1 hs
        have h3 := HT.out t ht
        have h4 := tidyL_len t
        rw [bstr_size]
        unfold maxLen
        omega
      have HRD := Lib.hid hrd
      have c0 : wr.cell? ⟨rb, 0, none⟩ = some (Value.int .i64 num) := HKW.out.cell 0
      have c1 : wr.cell? ⟨rb, 1, none⟩ = some (Value.int .i64 den) := HKW.out.cell 1
      clear hrd HB HO HB1 HG1 HK1 HR1 H1
      go_wp2_with fail
      clear c0 c1
      refine (clus_any v (ls.map tidyL) n num den wr HRD.out).mono ?_
      rintro e w5 ⟨u, rfl, hn, hb⟩
      rw [HO2.out] at hn
      rw [HF2.out]
      have HR5 := Lib.hid (nat_read hn clO_small)
      have HR1 := Lib.hid (Rp.ext _ HRW.out hb)
      have HB5 := Lib.hid (ext_trans HBW.out hb)
      have HG5 := Lib.hid (HGW.out.ext hb)
      obtain ⟨Au, cu, rfl, hul, huc, _⟩ := Rp.sl_open HR5.out
      unfold maxLen at huc
      have hbb : ((((clO ls n num den).length : Nat) : Int) != ((clO ls n num den).length : Int)) = false := by simp
      clear hn hb HRW HBW HGW HKW HRD
      generalize clO ls n num den = gs at *
      go_wp2_with fail
      go_loopw [15] (fun vi w6 => ∃ k : Nat, k ≤ gs.length ∧ vi = .int .i64 k ∧ Hid (Drawn w5 w6)) (fun vi _ => gs.length - (intOf vi).toNat)
      case atStart => exact ⟨0, Nat.zero_le _, rfl, Drawn.refl w5⟩
      case round =>
        obtain ⟨k, hk, rfl, HW⟩ := hrel
        by_cases hlt : k < gs.length
        · obtain ⟨ad1, u1, rfl, _, hu1, hcell1⟩ := Rp.sl_at1 rfl (Rp.drawn _ HR1.out HW.out) hlt
          obtain ⟨ad2, u2, rfl, _, hu2, hcell2⟩ := Rp.sl_at1 rfl (Rp.drawn _ HR5.out HW.out) hlt
          obtain ⟨A3, c3, rfl, _⟩ := Rp.sl_open (show (Rp.sl (Rp.int .i64)).ok wr (· < w5.heap.size) [u1] (toI gs[k]) from hu1)
          obtain ⟨A4, c4, rfl, _⟩ := Rp.sl_open (show (Rp.sl (Rp.int .i64)).ok wr (· < w5.heap.size) [u2] (toI gs[k]) from hu2)
          have HV1 : Hid ((Rp.sl (Rp.int .i64)).ok wr (· < w5.heap.size) [.slice A3 (toI gs[k]).length c3] (toI gs[k])) := Lib.hid hu1
          have HV2 : Hid ((Rp.sl (Rp.int .i64)).ok wr (· < w5.heap.size) [.slice A4 (toI gs[k]).length c4] (toI gs[k])) := Lib.hid hu2
          clear hu1 hu2
          have i1 : (k : Int) < gs.length := by omega
          have HE : Hid (decide (toI gs[k] = toI gs[k]) = true) := Lib.hid (decide_eq_true rfl)
          go_wp2_with fail
          go_quiet ((go_at_call 9; exact Calls.quiet_of (eqInt_any _ _ _ _ _ _ _ (Rp.drewN _ HV1.out _) (Rp.drewN _ HV2.out _))))
          go_wp2_with fail
          go_roundw
          case rel => exact ⟨k + 1, by omega, by go_num, HW.out.more _⟩
          case measure => simp [intOf]; omega
        · obtain rfl : k = gs.length := by omega
          obtain ⟨q, hq⟩ := HW.out
          have HGZ : Hid (GInt wr) := Lib.hid (by rw [hq]; exact HG5.out.ext (below_drewN (Below.refl _ _) q))
          have HBZ : Hid (Below w.heap.size w wr) := Lib.hid (by rw [hq]; exact below_drewN HB5.out q)
          clear hq HW HR1 HR5 HB5 HG5
          go_wp2_with fail
          refine (lives_any _ HGZ.out).mono ?_
          rintro e w7 ⟨rfl, hb7⟩
          have HB7 := Lib.hid (ext_trans HBZ.out hb7)
          clear hb7
          go_wp2_with fail
          go_ret
          exact ⟨rfl, HB7.out⟩
end Go.Proofs.YtnkdcmibafjplaaGreatDoor
