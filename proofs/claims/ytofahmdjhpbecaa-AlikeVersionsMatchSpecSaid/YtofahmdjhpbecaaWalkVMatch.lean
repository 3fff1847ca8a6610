/-
  The law 'AlikeVersionsMatchSpec' walked: it returns true.
-/
import Derived.Test.YtofahmdjhpbecaaDig
import Derived.Test.YtofahmdjhpbecaaKept
import Derived.Test.YtofahmdjhpbecaaRest
import Derived.Test.YtofahmdjhpbecaaRefKept
import Derived.Test.YtofahmdjhpbecaaRefRest
import Derived.Test.YtofahmdjhpbecaaSameVer
namespace Go.Proofs.Ytofahmdjhpbecaa
open Go.RowKit
set_option linter.unusedVariables false

set_option maxRecDepth 100000 in
set_option maxHeartbeats 1000000 in
theorem vmatchLaw_any (v0 : Value) (bs : List (List UInt8)) (v1 : Value) (most : Int) (v2 : Value) (l : List Ver) (v3 : Value) (n : Int) (w : World) (h0 : (Rp.sl (Rp.sl Rp.u8)).ok w (· < w.heap.size) [v0] bs) (f0 : (Rp.sl (Rp.sl Rp.u8)).fits bs)
    (h1 : (Rp.int .i64).ok w (· < w.heap.size) [v1] most) (f1 : (Rp.int .i64).fits most) (h2 : (Rp.sl verRp).ok w (· < w.heap.size) [v2] l) (f2 : (Rp.sl verRp).fits l) (h3 : (Rp.int .i64).ok w (· < w.heap.size) [v3] n) (f3 : (Rp.int .i64).fits n) :
    Calls Try.prog 11 #[v0, v1, v2, v3] w fun e w' => e = .returned (.bool true) ∧ Below w.heap.size w w' := by
  obtain ⟨e1, _⟩ := h1
  injection e1 with e1
  subst e1
  obtain ⟨e3, _⟩ := h3
  injection e3 with e3
  subst e3
  have H0 := Lib.hid h0
  have H2 := Lib.hid h2
  have F2 := Lib.hid f2
  clear h0 h2 f0 f2
  go_enter Try.func11, Try.ntmps11
  go_wp2_with fail
  refine (kept_any _ bs most w H0.out).mono ?_
  rintro e w1 ⟨x, rfl, hx, hb1⟩
  have HX := Lib.hid hx
  have HB1 := Lib.hid hb1
  clear hx hb1
  go_wp2_with fail
  refine (refKept_any _ bs most w1 (Rp.ext _ H0.out HB1.out)).mono ?_
  rintro e w2 ⟨y, rfl, hy, hb2⟩
  have HY := Lib.hid hy
  have HX2 := Lib.hid (Rp.ext _ HX.out hb2)
  have HB2 := Lib.hid (ext_trans HB1.out hb2)
  clear hy hb2
  have q1 : (keptFault bs most != keptFault bs most) = false := by simp
  go_wp2_with fail
  refine (sameVersions_any _ _ (keptOut bs most) (keptOut bs most) w2 _ _ HX2.out HY.out).mono ?_
  rintro e w3 ⟨rfl, hd⟩
  rw [decide_eq_true rfl]
  have HB3 := Lib.hid (hd.below HB2.out)
  clear hd
  go_wp2_with fail
  refine (restored_any _ l n _ (Rp.ext _ H2.out HB3.out) F2.out).mono ?_
  rintro e w4 ⟨z, rfl, hz, hb4⟩
  have HZ := Lib.hid hz
  have HB4 := Lib.hid (ext_trans HB3.out hb4)
  clear hz hb4
  go_wp2_with fail
  refine (refRestored_any _ l n _ (Rp.ext _ H2.out HB4.out) F2.out).mono ?_
  rintro e w5 ⟨u, rfl, hu, hb5⟩
  have HU := Lib.hid hu
  have HZ5 := Lib.hid (Rp.ext _ HZ.out hb5)
  have HB5 := Lib.hid (ext_trans HB4.out hb5)
  clear hu hb5
  have q2 : ((rsAll l n).2 == (rsAll l n).2) = true := by simp
  go_wp2_with fail
  refine (eqBytes_any _ _ (rsAll l n).1 (rsAll l n).1 w5 _ _ HZ5.out HU.out).mono ?_
  rintro e w6 ⟨rfl, n6, rfl⟩
  rw [decide_eq_true rfl]
  have HB6 := Lib.hid (below_drewN HB5.out n6)
  go_wp2_with fail
  refine (awake_any _).mono ?_
  rintro e w7 ⟨rfl, hb7⟩
  have HB7 := Lib.hid (ext_trans HB6.out hb7)
  clear hb7
  go_wp2
  go_ret
  exact ⟨rfl, HB7.out⟩
end Go.Proofs.Ytofahmdjhpbecaa
