/-
  The law 'CareMovesMatchSpec' walked: it returns true.
-/
import Derived.Test.YtdeeiifcjbmmiaaGreatDoorRefMoves
import Derived.Test.YtdeeiifcjbmmiaaGreatDoorOpen
import Derived.Test.YtdeeiifcjbmmiaaGreatDoorAwake11
namespace Go.Proofs.YtdeeiifcjbmmiaaGreatDoor
open Go.RowKit
set_option linter.unusedVariables false

theorem opens_site : Opens Tryz.prog 48 siteRp := by
  refine opens_via _ (fun (p : ByteArray × Int × Int) => ⟨p.1.data.toList, p.2.1, p.2.2⟩) (fun p => by rw [bstr_eq]) ?_
  refine opens_struct Tryz.underlying48 (by kernel_rfl) ?_
  refine opensF_cons (by rfl) (by kernel_rfl) (opens_str Tryz.underlying9) ?_
  refine opensF_cons (by rfl) (by kernel_rfl) (opens_int Tryz.underlying3) ?_
  exact opensF_one (by rfl) (by kernel_rfl) (opens_int Tryz.underlying3)
theorem opens_sites : Opens Tryz.prog 22 (Rp.sl siteRp) := opens_sl Tryz.underlying22 (by kernel_rfl) (by decide) (of_decide_eq_true (by kernel_rfl)) opens_site
set_option maxRecDepth 100000 in
set_option maxHeartbeats 1000000 in
theorem mvLaw_any (v0 : Value) (bef : List Site) (v1 : Value) (aft : List Site) (v2 : Value) (its : List (List UInt8)) (v3 : Value) (many : Int) (w : World) (h0 : (Rp.sl siteRp).ok w (· < w.heap.size) [v0] bef) (f0 : (Rp.sl siteRp).fits bef)
    (h1 : (Rp.sl siteRp).ok w (· < w.heap.size) [v1] aft) (f1 : (Rp.sl siteRp).fits aft) (h2 : namesRp.ok w (· < w.heap.size) [v2] its) (f2 : namesRp.fits its) (h3 : (Rp.int .i64).ok w (· < w.heap.size) [v3] many) (f3 : (Rp.int .i64).fits many) :
    Calls Tryz.prog 4 #[v0, v1, v2, v3] w fun e w' => e = .returned (.bool true) ∧ Below w.heap.size w w' := by
  obtain ⟨e3, _⟩ := h3
  injection e3 with e3
  subst e3
  have H0 := Lib.hid h0
  have H1 := Lib.hid h1
  have H2 := Lib.hid h2
  clear f0 f1 f2 f3 h0 h1 h2
  go_enter Tryz.func4, Tryz.ntmps4
  go_wp2_with fail
  refine (moves_any v0 bef v1 aft v2 its many w H0.out H1.out H2.out).mono ?_
  rintro e w1 ⟨vx, rfl, hx, hb⟩
  have HB1 := Lib.hid hb
  have HX := Lib.hid hx
  clear hx hb
  go_wp2_with fail
  refine (refMoves_any v0 bef v1 aft v2 its many w1 (Rp.ext _ H0.out HB1.out) (Rp.ext _ H1.out HB1.out) (Rp.ext _ H2.out HB1.out)).mono ?_
  rintro e w2 ⟨vy, rfl, hy, hb⟩
  have HP := Lib.hid (Rp.ext _ HX.out hb)
  have HQ := Lib.hid hy
  have HB2 := Lib.hid (ext_trans HB1.out hb)
  clear hb hy HX HB1
  generalize mvFault bef aft its many = g
  go_wp2_with fail
  refine (eqMv_is _ _ _ w2 _ _ HP.out HQ.out).mono ?_
  rintro e w3 ⟨rfl, n, rfl⟩
  have HB3 := Lib.hid (below_drewN HB2.out n)
  clear HP HQ HB2
  generalize w2.drewN n = w3 at *
  go_wp2_with fail
  refine (awake_any _).mono ?_
  rintro e w7 ⟨rfl, hb7⟩
  have HB7 := Lib.hid (ext_trans HB3.out hb7)
  clear hb7
  go_wp2_with fail
  go_ret
  exact ⟨rfl, HB7.out⟩
end Go.Proofs.YtdeeiifcjbmmiaaGreatDoor
