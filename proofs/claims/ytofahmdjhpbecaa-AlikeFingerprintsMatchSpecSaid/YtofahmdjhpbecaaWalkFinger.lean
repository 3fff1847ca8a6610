/-
  The law 'AlikeFingerprintsMatchSpec' walked: it returns true.
-/
import Derived.Test.YtofahmdjhpbecaaDig
import Derived.Test.YtofahmdjhpbecaaDist
import Derived.Test.YtofahmdjhpbecaaFinger4
namespace Go.Proofs.Ytofahmdjhpbecaa
open Go.RowKit
set_option linter.unusedVariables false

set_option maxRecDepth 100000 in
set_option maxHeartbeats 1000000 in
theorem fingerLaw_any (v0 : Value) (s0 : ByteArray) (v1 : Value) (s1 : ByteArray) (v2 : Value) (c : Int) (w : World) (h0 : Rp.str.ok w (· < w.heap.size) [v0] s0) (f0 : Rp.str.fits s0)
    (h1 : Rp.str.ok w (· < w.heap.size) [v1] s1) (f1 : Rp.str.fits s1) (h2 : (Rp.int .u64).ok w (· < w.heap.size) [v2] c) (f2 : (Rp.int .u64).fits c) :
    Calls Try.prog 6 #[v0, v1, v2] w fun e w' => e = .returned (.bool true) ∧ Below w.heap.size w w' := by
  obtain ⟨e0, z0⟩ := h0
  injection e0 with e0
  subst e0
  obtain ⟨e1, z1⟩ := h1
  injection e1 with e1
  subst e1
  obtain ⟨e2, z2⟩ := h2
  injection e2 with e2
  subst e2
  obtain ⟨a, rfl⟩ : ∃ a, s0 = bstr a := ⟨_, (bstr_eq s0).symm⟩
  obtain ⟨b, rfl⟩ : ∃ b, s1 = bstr b := ⟨_, (bstr_eq s1).symm⟩
  have hc : 0 ≤ c ∧ c < 18446744073709551616 := by simp [Lit.wf, IntKind.min, IntKind.max, IntKind.signed, IntKind.bits] at z2; omega
  obtain ⟨c, rfl⟩ := Int.eq_ofNat_of_zero_le hc.1
  have hc2 : c < 18446744073709551616 := by omega
  rw [bstr_size] at z0 z1
  clear f0 f1 f2 z2 hc
  have hx := fpOut_lt a
  have hz := fpOut_lt b
  go_enter Try.func6, Try.ntmps6
  go_wp2_with fail
  refine (fp_any _ w z0).mono ?_
  rintro e w1 ⟨rfl, hb1⟩
  have HB1 := Lib.hid hb1
  clear hb1
  go_wp2_with fail
  refine (refFp_any _ w1 z0).mono ?_
  rintro e w2 ⟨rfl, hb2⟩
  have HB2 := Lib.hid (ext_trans HB1.out hb2)
  clear hb2
  go_wp2_with fail
  refine (fp_any _ w2 z1).mono ?_
  rintro e w3 ⟨rfl, hb3⟩
  have HB3 := Lib.hid (ext_trans HB2.out hb3)
  clear hb3
  by_cases hl : b.length ≤ 20000
  · have hf : fpFault b = 0 := if_pos hl
    rw [hf]
    generalize fpOut a = x at *
    generalize fpOut b = z at *
    go_wp2_with fail
    refine (distance_any _ _ w3 hx hz).mono ?_
    rintro e w4 ⟨rfl, rfl⟩
    go_wp2_with fail
    refine (refDistance_any _ _ w3 hx hz).mono ?_
    rintro e w4 ⟨rfl, rfl⟩
    go_wp2_with fail
    refine (distance_any _ _ w3 hz hx).mono ?_
    rintro e w4 ⟨rfl, rfl⟩
    rw [Pop.pc_comm z x]
    go_wp2_with fail
    refine (distance_any _ _ w3 hx hx).mono ?_
    rintro e w4 ⟨rfl, rfl⟩
    rw [Pop.pc_self x]
    go_wp2_with fail
    refine (distance_any _ _ w3 hx hc2).mono ?_
    rintro e w4 ⟨rfl, rfl⟩
    go_wp2_with fail
    refine (distance_any _ _ w3 hc2 hz).mono ?_
    rintro e w4 ⟨rfl, rfl⟩
    have ht := Pop.pc_tri x z c
    have l1 := Pop.pc_le (x ^^^ c)
    have l2 := Pop.pc_le (c ^^^ z)
    have l3 := Pop.pc_le (x ^^^ z)
    generalize Pop.pc (x ^^^ c) = d1 at *
    generalize Pop.pc (c ^^^ z) = d2 at *
    generalize Pop.pc (x ^^^ z) = d3 at *
    go_wp2_with fail
    refine (awake_any _).mono ?_
    rintro e w6 ⟨rfl, hb6⟩
    have HB6 := Lib.hid (ext_trans HB3.out hb6)
    clear hb6
    go_wp2
    go_ret
    exact ⟨rfl, HB6.out⟩
  · have hf : fpFault b = 2 := if_neg hl
    rw [hf]
    go_wp2_with fail
    refine (awake_any _).mono ?_
    rintro e w6 ⟨rfl, hb6⟩
    have HB6 := Lib.hid (ext_trans HB3.out hb6)
    clear hb6
    go_wp2
    go_ret
    exact ⟨rfl, HB6.out⟩
end Go.Proofs.Ytofahmdjhpbecaa
