/-
  The law 'CareRepairsMatchSpec' walked: it returns true.
-/
import Derived.Test.YtdklocgaimejgaaDoorProg
import Derived.Test.YtdklocgaimejgaaDoorOpen
import Derived.Test.YtdklocgaimejgaaDoorTypesV
import Derived.Test.YtdklocgaimejgaaDoorRepairs
import Derived.Test.YtdklocgaimejgaaDoorRefRepairs
import Derived.Test.YtdklocgaimejgaaDoorAfter
import Derived.Test.YtdklocgaimejgaaDoorRefAfter
import Derived.Test.YtdklocgaimejgaaDoorEqR
import Derived.Test.YtdklocgaimejgaaDoorEqS
import Derived.Test.YtdklocgaimejgaaDoorAwake11
namespace Go.Proofs.YtdklocgaimejgaaDoor
open Go.RowKit
set_option linter.unusedVariables false

set_option maxRecDepth 100000 in
set_option maxHeartbeats 1000000 in
theorem repsLaw_any (v0 : Value) (s : List Site) (v1 : Value) (l : List Held) (v2 : Value) (costs : List Cst) (v3 : Value) (most : Int) (v4 : Value) (r : List Rpr) (w : World) (h0 : (Rp.sl siteRp).ok w (· < w.heap.size) [v0] s) (f0 : (Rp.sl siteRp).fits s)
    (h1 : (Rp.sl heldRp).ok w (· < w.heap.size) [v1] l) (f1 : (Rp.sl heldRp).fits l) (h2 : (Rp.sl cstRp).ok w (· < w.heap.size) [v2] costs) (f2 : (Rp.sl cstRp).fits costs) (h3 : (Rp.int .i64).ok w (· < w.heap.size) [v3] most) (f3 : (Rp.int .i64).fits most)
    (h4 : (Rp.sl rprRp).ok w (· < w.heap.size) [v4] r) (f4 : (Rp.sl rprRp).fits r) :
    Calls Tryd.prog 4 #[v0, v1, v2, v3, v4] w fun e w' => e = .returned (.bool true) ∧ Below w.heap.size w w' := by
  obtain ⟨e3, _⟩ := h3
  injection e3 with e3
  subst e3
  have H0 := Lib.hid h0
  have H1 := Lib.hid h1
  have H2 := Lib.hid h2
  have H4 := Lib.hid h4
  clear f0 f1 f2 f3 f4 h0 h1 h2 h4
  go_enter Tryd.func4, Tryd.ntmps4
  go_wp2_with fail
  refine (repairs_any v0 s v1 l v2 costs most w H0.out H1.out H2.out).mono ?_
  rintro e w1 ⟨x1, x2, rfl, hx1, hx2, hb1⟩
  have HB1 := Lib.hid hb1
  have HX1 := Lib.hid hx1
  have HX2 := Lib.hid hx2
  clear hb1 hx1 hx2
  go_wp2_with fail
  refine (refRepairs_any v0 s v1 l v2 costs most w1 (Rp.ext _ H0.out HB1.out) (Rp.ext _ H1.out HB1.out) (Rp.ext _ H2.out HB1.out)).mono ?_
  rintro e w2 ⟨y1, y2, rfl, hy1, hy2, hb2⟩
  have HP1 := Lib.hid (Rp.ext _ HX1.out hb2)
  have HP2 := Lib.hid (Rp.ext _ HX2.out hb2)
  have HQ1 := Lib.hid hy1
  have HQ2 := Lib.hid hy2
  have HB2 := Lib.hid (ext_trans HB1.out hb2)
  clear hb2 hy1 hy2 HX1 HX2 HB1
  generalize repFault s l costs most = g
  go_wp2_with fail
  refine (eqRpr_is _ _ _ w2 _ _ HP1.out HQ1.out).mono ?_
  rintro e w3 ⟨rfl, n, rfl⟩
  go_wp2_with fail
  refine (eqStrs_any _ _ _ _ _ _ _ (Rp.drewN _ HP2.out n) (Rp.drewN _ HQ2.out n)).mono ?_
  rintro e w3 ⟨rfl, m, rfl⟩
  rw [decide_eq_true rfl]
  have HB4 := Lib.hid (below_drewN HB2.out (n + m))
  clear HP1 HP2 HQ1 HQ2 HB2
  go_wp2_with fail
  refine (after_any v0 s v1 l v4 r _ (Rp.ext _ H0.out HB4.out) (Rp.ext _ H1.out HB4.out) (Rp.ext _ H4.out HB4.out)).mono ?_
  rintro e w5 ⟨x1, rfl, hx1, hb5⟩
  have HB5 := Lib.hid (ext_trans HB4.out hb5)
  have HX1 := Lib.hid hx1
  clear hb5 hx1
  go_wp2_with fail
  refine (refAfter_any v0 s v1 l v4 r w5 (Rp.ext _ H0.out HB5.out) (Rp.ext _ H1.out HB5.out) (Rp.ext _ H4.out HB5.out)).mono ?_
  rintro e w6 ⟨y1, rfl, hy1, hb6⟩
  have HP1 := Lib.hid (Rp.ext _ HX1.out hb6)
  have HQ1 := Lib.hid hy1
  have HB6 := Lib.hid (ext_trans HB5.out hb6)
  clear hb6 hy1 HX1
  generalize aftFault s l r = g2
  go_wp2_with fail
  refine (eqHeld_is _ _ _ w6 _ _ HP1.out HQ1.out).mono ?_
  rintro e w7 ⟨rfl, n, rfl⟩
  have HB7 := Lib.hid (below_drewN HB6.out n)
  go_wp2_with fail
  refine (awake_any _).mono ?_
  rintro e w8 ⟨rfl, hb8⟩
  have HB8 := Lib.hid (ext_trans HB7.out hb8)
  clear hb8
  go_wp2_with fail
  go_ret
  exact ⟨rfl, HB8.out⟩
end Go.Proofs.YtdklocgaimejgaaDoor
