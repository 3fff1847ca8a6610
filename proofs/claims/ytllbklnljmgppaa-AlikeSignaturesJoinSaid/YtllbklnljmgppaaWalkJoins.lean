/-
  The law 'AlikeSignaturesJoin' walked: it returns true.
-/
import Derived.Test.YtllbklnljmgppaaJoinP
import Derived.Test.YtllbklnljmgppaaSig
import Derived.Deep.RegionLaw
namespace Go.Proofs.Ytllbklnljmgppaa
open Go.RowKit
set_option linter.unusedVariables false

theorem bstr_blank (a b : List UInt8) : bstr a ++ (⟨#[32]⟩ : ByteArray) ++ bstr b = bstr (a ++ 32 :: b) := by
  apply str_inj
  rw [bstr_toList]
  simp [ByteArray.toList_eq]
  rfl
set_option maxRecDepth 100000 in
set_option maxHeartbeats 4000000 in
theorem joinsLaw_any (v0 : Value) (s0 : ByteArray) (v1 : Value) (s1 : ByteArray) (v2 : Value) (k : Int) (w : World) (h0 : Rp.str.ok w (· < w.heap.size) [v0] s0) (f0 : Rp.str.fits s0)
    (h1 : Rp.str.ok w (· < w.heap.size) [v1] s1) (f1 : Rp.str.fits s1) (h2 : (Rp.int .i64).ok w (· < w.heap.size) [v2] k) (f2 : (Rp.int .i64).fits k) :
    Calls Try.prog 3 #[v0, v1, v2] w fun e w' => e = .returned (.bool true) ∧ Below w.heap.size w w' := by
  obtain ⟨e0, z0⟩ := h0
  injection e0 with e0
  subst e0
  obtain ⟨e1, z1⟩ := h1
  injection e1 with e1
  subst e1
  obtain ⟨e2, z2⟩ := h2
  injection e2 with e2
  subst e2
  obtain ⟨a, rfl⟩ : ∃ a, s0 = bstr a := ⟨_, (bstr_eq s0).symm⟩
  obtain ⟨b, rfl⟩ : ∃ b, s1 = bstr b := ⟨_, (bstr_eq s1).symm⟩
  have l0 : a.length ≤ 140737488351232 := f0
  have l1 : b.length ≤ 140737488351232 := f1
  have l3 : (a ++ 32 :: b).length ≤ maxLen := by rw [List.length_append, List.length_cons]; unfold maxLen; omega
  rw [bstr_size] at z0 z1
  have hcat := bstr_blank a b
  have hz1 : (bstr a).size = a.length := rfl
  have hz2 : (bstr b).size = b.length := rfl
  have L3 := Lib.hid l3
  clear f0 f1 f2 z2 l3
  go_enter Try.func3, Try.ntmps3
  go_wp2_with fail
  refine (sig_any a 1 k w z0).mono ?_
  rintro e w1 ⟨x, rfl, hx, hb1⟩
  have HX1 := Lib.hid hx
  have HB1 := Lib.hid hb1
  clear hx hb1
  go_wp2_with fail
  refine (sig_any b 1 k w1 z1).mono ?_
  rintro e w2 ⟨y, rfl, hy, hb2⟩
  have HX2 := Lib.hid (own_belowU HX1.out hb2)
  have HY2 := Lib.hid hy
  have HB2 := Lib.hid (ext_trans HB1.out hb2)
  clear hy hb2 HX1 HB1
  go_wp2_with fail
  refine (sig_any _ 1 k w2 L3.out).mono ?_
  rintro e w3 ⟨z, rfl, hz, hb3⟩
  have HX3 := Lib.hid (own_belowU HX2.out hb3)
  have HY3 := Lib.hid (own_belowU HY2.out hb3)
  have HZ3 := Lib.hid hz
  have HB3 := Lib.hid (ext_trans HB2.out hb3)
  clear hz hb3 HX2 HY2 HB2 hcat hz1 hz2 L3 z0 z1 l0 l1
  by_cases g1 : sgF a 1 k = 0
  case neg =>
    generalize sgF a 1 k = f1 at *
    generalize sgF b 1 k = f2 at *
    generalize sgF (a ++ 32 :: b) 1 k = f3 at *
    have d1 : (f1 != 0) = true := by simpa using g1
    clear g1
    go_wp2_with fail
    refine (awake_any _).mono ?_
    rintro e w10 ⟨rfl, hb10⟩
    have HB10 := Lib.hid (ext_trans HB3.out hb10)
    clear hb10
    go_wp2
    go_ret
    exact ⟨rfl, HB10.out⟩
  by_cases g2 : sgF b 1 k = 0
  case neg =>
    rw [g1]
    generalize sgF b 1 k = f2 at *
    generalize sgF (a ++ 32 :: b) 1 k = f3 at *
    have d1 : (f2 != 0) = true := by simpa using g2
    clear g2 g1
    go_wp2_with fail
    refine (awake_any _).mono ?_
    rintro e w10 ⟨rfl, hb10⟩
    have HB10 := Lib.hid (ext_trans HB3.out hb10)
    clear hb10
    go_wp2
    go_ret
    exact ⟨rfl, HB10.out⟩
  by_cases g3 : sgF (a ++ 32 :: b) 1 k = 0
  case neg =>
    rw [g1, g2]
    generalize sgF (a ++ 32 :: b) 1 k = f3 at *
    have d1 : (f3 != 0) = true := by simpa using g3
    clear g2 g1 g3
    go_wp2_with fail
    refine (awake_any _).mono ?_
    rintro e w10 ⟨rfl, hb10⟩
    have HB10 := Lib.hid (ext_trans HB3.out hb10)
    clear hb10
    go_wp2
    go_ret
    exact ⟨rfl, HB10.out⟩
  obtain ⟨hk, q1, _⟩ := sgF_good g1
  obtain ⟨_, q2, _⟩ := sgF_good g2
  obtain ⟨_, q3, _⟩ := sgF_good g3
  have HJ := Lib.hid (sig_join g1 g2 g3)
  have HRX := Lib.hid (sgO_read HX3.out)
  have HRY := Lib.hid (sgO_read HY3.out)
  have HRZ := Lib.hid (sgO_read HZ3.out)
  rw [g1, g2, g3]
  clear g1 g2 g3 HX3 HY3 HZ3
  obtain ⟨K, rfl⟩ := Int.eq_ofNat_of_zero_le hk
  rw [Int.toNat_natCast] at q1 q2 q3
  generalize sgO a 1 (K : Int) = xs at *
  generalize sgO b 1 (K : Int) = ys at *
  generalize sgO (a ++ 32 :: b) 1 (K : Int) = zs at *
  obtain ⟨A1, c1, rfl, hl1, hc1, _⟩ := Rp.sl_open HRX.out
  obtain ⟨A2, c2, rfl, hl2, hc2, _⟩ := Rp.sl_open HRY.out
  obtain ⟨A3, c3, rfl, hl3, hc3, _⟩ := Rp.sl_open HRZ.out
  unfold maxLen at hc1 hc2 hc3
  have HQ := Lib.hid (And.intro q1 (And.intro q2 q3))
  rw [q1, q2, q3]
  rw [q1] at hl1 HRX
  rw [q2] at hl2 HRY
  rw [q3] at hl3 HRZ
  clear q1 q2 q3 hk
  have hKK : ((K : Int) != (K : Int)) = false := by simp
  go_wp2_with fail
  refine (awake_any _).mono ?_
  rintro e w4 ⟨rfl, hb4⟩
  have HX := Lib.hid (Rp.ext _ HRX.out hb4)
  have HY := Lib.hid (Rp.ext _ HRY.out hb4)
  have HZ := Lib.hid (Rp.ext _ HRZ.out hb4)
  have HB4 := Lib.hid (ext_trans HB3.out hb4)
  clear hb4 HRX HRY HRZ HB3
  go_wp2_with fail
  go_loopw [68] (fun vi wr => ∃ i : Nat, i ≤ K ∧ vi = .int .i64 i ∧ Hid (Drawn w4 wr)) (fun vi _ => K - (intOf vi).toNat)
  case atStart => exact ⟨0, by omega, rfl, Drawn.refl _⟩
  case round =>
    obtain ⟨i, hi, rfl, HD⟩ := hrel
    by_cases hlt : i < K
    · obtain ⟨q1, q2, q3⟩ := HQ.out
      have i1 : i < xs.length := by omega
      have i2 : i < ys.length := by omega
      have i3 : i < zs.length := by omega
      obtain ⟨ad1, u1, rfl, _, hu1, hcell1⟩ := Rp.sl_at1 rfl ((Rp.sl (Rp.int .u64)).drawn HX.out HD.out) i1
      obtain ⟨ad2, u2, rfl, _, hu2, hcell2⟩ := Rp.sl_at1 rfl ((Rp.sl (Rp.int .u64)).drawn HY.out HD.out) i2
      obtain ⟨ad3, u3, rfl, _, hu3, hcell3⟩ := Rp.sl_at1 rfl ((Rp.sl (Rp.int .u64)).drawn HZ.out HD.out) i3
      obtain ⟨hu1, r1⟩ := hu1
      injection hu1 with hu1
      subst hu1
      obtain ⟨hu2, r2⟩ := hu2
      injection hu2 with hu2
      subst hu2
      obtain ⟨hu3, r3⟩ := hu3
      injection hu3 with hu3
      subst hu3
      have hj := HJ.out i i1 i2 i3
      have h1 : 0 ≤ xs[i] ∧ xs[i] ≤ 18446744073709551615 := by simp [Lit.wf, IntKind.min, IntKind.max, IntKind.signed, IntKind.bits] at r1; omega
      have h2 : 0 ≤ ys[i] ∧ ys[i] ≤ 18446744073709551615 := by simp [Lit.wf, IntKind.min, IntKind.max, IntKind.signed, IntKind.bits] at r2; omega
      rw [hj] at hcell3
      obtain ⟨p, hp⟩ : ∃ p, xs[i] = p := ⟨_, rfl⟩
      obtain ⟨q, hq⟩ : ∃ q, ys[i] = q := ⟨_, rfl⟩
      rw [hp] at hcell1 hcell3 h1
      rw [hq] at hcell2 hcell3 h2
      obtain ⟨h3, h4⟩ := h1
      obtain ⟨h5, h6⟩ := h2
      have hm : (min p q != min p q) = false := by simp
      clear q1 q2 q3 i1 i2 i3 r1 r2 r3 hj hp hq
      go_wp2_with fail
      go_region_law (fail)
      all_goals
        go_wp2
        go_roundw
        case rel => exact ⟨i + 1, by omega, by go_num, HD.out.more _⟩
        case measure => simp [intOf]; omega
    · obtain rfl : i = K := by omega
      have HB10 := Lib.hid (HD.out.below HB4.out)
      go_wp2
      go_ret
      exact ⟨rfl, HB10.out⟩
end Go.Proofs.Ytllbklnljmgppaa
