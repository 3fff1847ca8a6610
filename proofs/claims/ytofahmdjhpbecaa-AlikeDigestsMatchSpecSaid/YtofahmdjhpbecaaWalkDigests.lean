/-
  The law 'AlikeDigestsMatchSpec' walked: it returns true.
-/
import Derived.Test.YtofahmdjhpbecaaDig
import Derived.Test.YtofahmdjhpbecaaFirst
import Derived.Test.YtofahmdjhpbecaaEq
namespace Go.Proofs.Ytofahmdjhpbecaa
open Go.RowKit
set_option linter.unusedVariables false

set_option maxRecDepth 100000 in
set_option maxHeartbeats 1000000 in
theorem digestsLaw_any (v0 : Value) (b : List UInt8) (v1 : Value) (l : List (List UInt8)) (w : World) (h0 : (Rp.sl Rp.u8).ok w (· < w.heap.size) [v0] b) (f0 : (Rp.sl Rp.u8).fits b)
    (h1 : (Rp.sl (Rp.sl Rp.u8)).ok w (· < w.heap.size) [v1] l) (f1 : (Rp.sl (Rp.sl Rp.u8)).fits l) :
    Calls Try.prog 3 #[v0, v1] w fun e w' => e = .returned (.bool true) ∧ Below w.heap.size w w' := by
  have H0 := Lib.hid h0
  have H1 := Lib.hid h1
  clear h0 h1
  go_enter Try.func3, Try.ntmps3
  go_wp2_with fail
  refine (firsts_any _ l w H1.out).mono ?_
  rintro e w1 ⟨x, rfl, hx, hb1⟩
  have HX := Lib.hid hx
  have HB1 := Lib.hid hb1
  clear hx hb1
  go_wp2_with fail
  refine (refFirsts_any _ l w1 (Rp.ext _ H1.out HB1.out)).mono ?_
  rintro e w2 ⟨y, rfl, hy, hb2⟩
  have HY := Lib.hid hy
  have HB2 := Lib.hid hb2
  clear hy hb2
  go_wp2_with fail
  refine (digest_any _ b w2 _ (Rp.ext _ (Rp.ext _ H0.out HB1.out) HB2.out)).mono ?_
  rintro e w3 ⟨rfl, hb3⟩
  have HB3 := Lib.hid hb3
  clear hb3
  go_wp2_with fail
  have B3 := Lib.hid (ext_trans (ext_trans HB1.out HB2.out) HB3.out)
  refine (refDigest_any _ b w3 _ (Rp.ext _ H0.out B3.out)).mono ?_
  rintro e w4 ⟨rfl, hb4⟩
  have HB4 := Lib.hid hb4
  clear hb4
  go_wp2_with fail
  have B4 := Lib.hid (ext_trans B3.out HB4.out)
  refine (eqInt_any _ _ (firstsOut l) (firstsOut l) w4 _ _ (Rp.ext _ (Rp.ext _ (Rp.ext _ HX.out HB2.out) HB3.out) HB4.out) (Rp.ext _ (Rp.ext _ HY.out HB3.out) HB4.out)).mono ?_
  rintro e w5 ⟨rfl, n, rfl⟩
  rw [decide_eq_true rfl]
  go_wp2_with fail
  refine (awake_any _).mono ?_
  rintro e w6 ⟨rfl, hb6⟩
  have B6 := Lib.hid (ext_trans (below_drewN B4.out n) hb6)
  clear hb6
  go_wp2
  go_ret
  exact ⟨rfl, B6.out⟩
end Go.Proofs.Ytofahmdjhpbecaa
