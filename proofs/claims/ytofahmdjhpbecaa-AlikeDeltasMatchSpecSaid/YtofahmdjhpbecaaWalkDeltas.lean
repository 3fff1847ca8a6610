/-
  The law 'AlikeDeltasMatchSpec' walked: it returns true.
-/
import Derived.Test.YtofahmdjhpbecaaDig
import Derived.Test.YtofahmdjhpbecaaRefDelta
import Derived.Test.YtofahmdjhpbecaaSame
import Derived.Test.YtofahmdjhpbecaaRebuilt
import Derived.Test.YtofahmdjhpbecaaRefRebuilt
namespace Go.Proofs.Ytofahmdjhpbecaa
open Go.RowKit
set_option linter.unusedVariables false

set_option maxRecDepth 100000 in
set_option maxHeartbeats 1000000 in
theorem deltasLaw_any (v0 : Value) (base : List UInt8) (v1 : Value) (b : List UInt8) (v2 : Value) (l : List Cp) (w : World) (h0 : (Rp.sl Rp.u8).ok w (· < w.heap.size) [v0] base) (f0 : (Rp.sl Rp.u8).fits base)
    (h1 : (Rp.sl Rp.u8).ok w (· < w.heap.size) [v1] b) (f1 : (Rp.sl Rp.u8).fits b) (h2 : (Rp.sl cpRp).ok w (· < w.heap.size) [v2] l) (f2 : (Rp.sl cpRp).fits l) :
    Calls Try.prog 5 #[v0, v1, v2] w fun e w' => e = .returned (.bool true) ∧ Below w.heap.size w w' := by
  have H0 := Lib.hid h0
  have H1 := Lib.hid h1
  have H2 := Lib.hid h2
  clear h0 h1 h2
  go_enter Try.func5, Try.ntmps5
  go_wp2_with fail
  refine (Delta_any _ _ base b w H0.out H1.out).mono ?_
  rintro e w1 ⟨x, rfl, hx, hb1⟩
  have HX := Lib.hid hx
  have HB1 := Lib.hid hb1
  clear hx hb1
  go_wp2_with fail
  refine (refDelta_any _ _ base b w1 (Rp.ext _ H0.out HB1.out) (Rp.ext _ H1.out HB1.out)).mono ?_
  rintro e w2 ⟨y, rfl, hy, hb2⟩
  have HY := Lib.hid hy
  have HB2 := Lib.hid hb2
  have B2 := Lib.hid (ext_trans HB1.out hb2)
  clear hy hb2
  have q1 : (deltaFault base b != deltaFault base b) = false := by simp
  go_wp2_with fail
  refine (sameCopies_any _ _ (deltaOut base b) (deltaOut base b) w2 _ _ (Rp.ext _ HX.out HB2.out) HY.out).mono ?_
  rintro e w3 ⟨rfl, hd⟩
  rw [decide_eq_true rfl]
  have B3 := Lib.hid (hd.below B2.out)
  clear hd
  go_wp2_with fail
  refine (rebuilt_any _ _ base l w3 (Rp.ext _ H0.out B3.out) (Rp.ext _ H2.out B3.out) f2).mono ?_
  rintro e w4 ⟨p, rfl, hp, hb4⟩
  have HP := Lib.hid hp
  have B4 := Lib.hid (ext_trans B3.out hb4)
  clear hp hb4
  go_wp2_with fail
  refine (refRebuilt_any _ _ base l w4 (Rp.ext _ H0.out B4.out) (Rp.ext _ H2.out B4.out) f2).mono ?_
  rintro e w5 ⟨q, rfl, hq, hb5⟩
  have HQ := Lib.hid hq
  have HB5 := Lib.hid hb5
  have B5 := Lib.hid (ext_trans B4.out hb5)
  clear hq hb5
  go_wp2_with fail
  refine (eqBytes_any _ _ (rbRes base l) (rbRes base l) w5 _ _ (Rp.ext _ HP.out HB5.out) HQ.out).mono ?_
  rintro e w6 ⟨rfl, n, rfl⟩
  rw [decide_eq_true rfl]
  go_wp2_with fail
  refine (awake_any _).mono ?_
  rintro e w7 ⟨rfl, hb7⟩
  have B7 := Lib.hid (ext_trans (below_drewN B5.out n) hb7)
  clear hb7
  go_wp2
  go_ret
  exact ⟨rfl, B7.out⟩
end Go.Proofs.Ytofahmdjhpbecaa
