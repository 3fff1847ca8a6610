/-
  The law 'AlikeDeltaBytesMatchSpec' walked: it returns true.
-/
import Derived.Test.YtofahmdjhpbecaaDig
import Derived.Test.YtofahmdjhpbecaaSame
import Derived.Test.YtofahmdjhpbecaaRefDB
import Derived.Test.YtofahmdjhpbecaaRefRD
namespace Go.Proofs.Ytofahmdjhpbecaa
open Go.RowKit
set_option linter.unusedVariables false

set_option maxRecDepth 100000 in
set_option maxHeartbeats 1000000 in
theorem dbytesLaw_any (v0 : Value) (l : List Cp) (v1 : Value) (b : List UInt8) (w : World) (h0 : (Rp.sl cpRp).ok w (· < w.heap.size) [v0] l) (f0 : (Rp.sl cpRp).fits l)
    (h1 : (Rp.sl Rp.u8).ok w (· < w.heap.size) [v1] b) (f1 : (Rp.sl Rp.u8).fits b) :
    Calls Try.prog 8 #[v0, v1] w fun e w' => e = .returned (.bool true) ∧ Below w.heap.size w w' := by
  have H0 := Lib.hid h0
  have H1 := Lib.hid h1
  clear h0 h1 f0 f1
  go_enter Try.func8, Try.ntmps8
  go_wp2_with fail
  refine (deltaBytesTop_any _ l w H0.out).mono ?_
  rintro e w1 ⟨x, rfl, hx, hb1⟩
  have HX := Lib.hid (Rp.sub _ hx (T := fun k => k < w1.heap.size) (fun k hk => hk.2))
  have HB1 := Lib.hid hb1
  clear hx hb1
  go_wp2_with fail
  refine (refDeltaBytes_any _ l w1 (Rp.ext _ H0.out HB1.out)).mono ?_
  rintro e w2 ⟨y, rfl, hy, hb2⟩
  have HY := Lib.hid (Rp.sub _ hy (T := fun k => k < w2.heap.size) (fun k hk => hk.2))
  have HX2 := Lib.hid (Rp.ext _ HX.out hb2)
  have HB2 := Lib.hid (ext_trans HB1.out hb2)
  clear hy hb2
  have q1 : (dbFault l != dbFault l) = false := by simp
  go_wp2_with fail
  refine (eqBytes_any _ _ (dbOut l) (dbOut l) w2 _ _ HX2.out HY.out).mono ?_
  rintro e w3 ⟨rfl, n3, rfl⟩
  rw [decide_eq_true rfl]
  have HB3 := Lib.hid (below_drewN HB2.out n3)
  go_wp2_with fail
  refine (readDelta_any _ b _ (Rp.ext _ H1.out HB3.out)).mono ?_
  rintro e w4 ⟨z, rfl, hz, hb4⟩
  have HZ := Lib.hid hz
  have HB4 := Lib.hid (ext_trans HB3.out hb4)
  clear hz hb4
  go_wp2_with fail
  refine (refReadDelta_any _ b _ (Rp.ext _ H1.out HB4.out)).mono ?_
  rintro e w5 ⟨u, rfl, hu, hb5⟩
  have HU := Lib.hid hu
  have HZ5 := Lib.hid (Rp.ext _ HZ.out hb5)
  have HB5 := Lib.hid (ext_trans HB4.out hb5)
  clear hu hb5
  have q2 : (rdFault b == rdFault b) = true := by simp
  have q3 : ((rdAt b : Int) == (rdAt b : Int)) = true := by simp
  go_wp2_with fail
  refine (sameCopies_any _ _ (rdOut b) (rdOut b) w5 _ _ HZ5.out HU.out).mono ?_
  rintro e w6 ⟨rfl, hd⟩
  rw [decide_eq_true rfl]
  have HB6 := Lib.hid (hd.below HB5.out)
  clear hd
  go_wp2_with fail
  refine (awake_any _).mono ?_
  rintro e w7 ⟨rfl, hb7⟩
  have HB7 := Lib.hid (ext_trans HB6.out hb7)
  clear hb7
  go_wp2
  go_ret
  exact ⟨rfl, HB7.out⟩
end Go.Proofs.Ytofahmdjhpbecaa
