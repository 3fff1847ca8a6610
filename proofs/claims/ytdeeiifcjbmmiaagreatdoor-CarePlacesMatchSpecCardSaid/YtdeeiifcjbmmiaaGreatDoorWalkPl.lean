/-
  The law 'CarePlacesMatchSpec' walked: it returns true.
-/
import Derived.Test.YtdeeiifcjbmmiaaGreatDoorPTop
import Derived.Test.YtdeeiifcjbmmiaaGreatDoorRefLoads
import Derived.Test.YtdeeiifcjbmmiaaGreatDoorEqLd
import Derived.Test.YtdeeiifcjbmmiaaGreatDoorEqS
import Derived.Test.YtdeeiifcjbmmiaaGreatDoorOpenS
import Derived.Test.YtdeeiifcjbmmiaaGreatDoorAwake11
namespace Go.Proofs.YtdeeiifcjbmmiaaGreatDoor
open Go.RowKit
set_option linter.unusedVariables false

set_option maxRecDepth 100000 in
set_option maxHeartbeats 1000000 in
theorem plLaw_any (v0 : Value) (s : List Site) (v1 : Value) (item0 : ByteArray) (v2 : Value) (many : Int) (v3 : Value) (its : List (List UInt8)) (w : World) (h0 : (Rp.sl siteRp).ok w (· < w.heap.size) [v0] s) (f0 : (Rp.sl siteRp).fits s)
    (h1 : Rp.str.ok w (· < w.heap.size) [v1] item0) (f1 : Rp.str.fits item0) (h2 : (Rp.int .i64).ok w (· < w.heap.size) [v2] many) (f2 : (Rp.int .i64).fits many) (h3 : namesRp.ok w (· < w.heap.size) [v3] its) (f3 : namesRp.fits its) :
    Calls Tryz.prog 3 #[v0, v1, v2, v3] w fun e w' => e = .returned (.bool true) ∧ Below w.heap.size w w' := by
  obtain ⟨e1, hi⟩ := h1
  injection e1 with e1
  subst e1
  obtain ⟨item, rfl⟩ : ∃ a, item0 = bstr a := ⟨_, (bstr_eq item0).symm⟩
  rw [bstr_size] at hi
  obtain ⟨e2, _⟩ := h2
  injection e2 with e2
  subst e2
  have H0 := Lib.hid h0
  have H3 := Lib.hid h3
  clear f0 f1 f2 f3 h0 h3
  go_enter Tryz.func3, Tryz.ntmps3
  go_wp2_with fail
  refine (placesTop_any v0 s item many w H0.out hi).mono ?_
  rintro e w1 ⟨vx, rfl, hx, hb⟩
  have HB1 := Lib.hid hb
  have HX := Lib.hid hx
  clear hx hb
  go_wp2_with fail
  refine (refPlacesTop_any v0 s item many w1 (Rp.ext _ H0.out HB1.out) hi).mono ?_
  rintro e w2 ⟨vy, rfl, hy, hb⟩
  have HP := Lib.hid (Rp.ext _ HX.out hb)
  have HQ := Lib.hid hy
  have HB2 := Lib.hid (ext_trans HB1.out hb)
  clear hb hy HX HB1
  generalize ldFault s [item] many = g
  go_wp2_with fail
  refine (eqStrs_any _ _ _ _ w2 _ _ HP.out HQ.out).mono ?_
  rintro e w3 ⟨rfl, n, rfl⟩
  rw [decide_eq_true rfl]
  have HB3 := Lib.hid (below_drewN HB2.out n)
  clear HP HQ HB2
  generalize w2.drewN n = w3 at *
  go_wp2_with fail
  refine (loads_any v0 s v3 its many w3 (Rp.ext _ H0.out HB3.out) (Rp.ext _ H3.out HB3.out)).mono ?_
  rintro e w4 ⟨vp, rfl, hx, hb⟩
  have HB4 := Lib.hid (ext_trans HB3.out hb)
  have HX := Lib.hid hx
  clear hx hb HB3
  go_wp2_with fail
  refine (refLoads_any v0 s v3 its many w4 (Rp.ext _ H0.out HB4.out) (Rp.ext _ H3.out HB4.out)).mono ?_
  rintro e w5 ⟨vq, rfl, hy, hb⟩
  have HP := Lib.hid (Rp.ext _ HX.out hb)
  have HQ := Lib.hid hy
  have HB5 := Lib.hid (ext_trans HB4.out hb)
  clear hb hy HX HB4
  generalize ldFault s its many = g2
  go_wp2_with fail
  refine (eqLd_is _ _ _ w5 _ _ HP.out HQ.out).mono ?_
  rintro e w6 ⟨rfl, n6, rfl⟩
  have HB6 := Lib.hid (below_drewN HB5.out n6)
  clear HP HQ HB5
  generalize w5.drewN n6 = w6 at *
  go_wp2_with fail
  refine (awake_any _).mono ?_
  rintro e w7 ⟨rfl, hb7⟩
  have HB7 := Lib.hid (ext_trans HB6.out hb7)
  clear hb7
  go_wp2_with fail
  go_ret
  exact ⟨rfl, HB7.out⟩
end Go.Proofs.YtdeeiifcjbmmiaaGreatDoor
