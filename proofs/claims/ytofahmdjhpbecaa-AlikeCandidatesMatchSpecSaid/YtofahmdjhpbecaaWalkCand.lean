/-
  The law 'AlikeCandidatesMatchSpec' walked: it returns true.
-/
import Derived.Test.YtofahmdjhpbecaaDig
import Derived.Test.YtofahmdjhpbecaaCand
namespace Go.Proofs.Ytofahmdjhpbecaa
open Go.RowKit
set_option linter.unusedVariables false

set_option maxRecDepth 100000 in
set_option maxHeartbeats 1000000 in
theorem candLaw_any (v0 : Value) (l : List (List Int)) (v1 : Value) (rows : Int) (w : World) (h0 : (Rp.sl (Rp.sl (Rp.int .u64))).ok w (· < w.heap.size) [v0] l) (f0 : (Rp.sl (Rp.sl (Rp.int .u64))).fits l)
    (h1 : (Rp.int .i64).ok w (· < w.heap.size) [v1] rows) (f1 : (Rp.int .i64).fits rows) :
    Calls Try.prog 4 #[v0, v1] w fun e w' => e = .returned (.bool true) ∧ Below w.heap.size w w' := by
  obtain ⟨e1, _⟩ := h1
  injection e1 with e1
  subst e1
  have H0 := Lib.hid h0
  clear h0
  go_enter Try.func4, Try.ntmps4
  go_wp2_with fail
  refine (candidates_any _ l rows w H0.out).mono ?_
  rintro e w1 ⟨x, rfl, hx, hb1⟩
  have HX := Lib.hid hx
  have HB1 := Lib.hid hb1
  clear hx hb1
  go_wp2_with fail
  refine (refCandidates_any _ l rows w1 (Rp.ext _ H0.out HB1.out)).mono ?_
  rintro e w2 ⟨y, rfl, hy, hb2⟩
  have HY := Lib.hid hy
  have HB2 := Lib.hid hb2
  have B2 := Lib.hid (ext_trans HB1.out hb2)
  clear hy hb2
  go_wp2_with fail
  refine (eqDuo_any _ _ (candOut l rows) (candOut l rows) w2 _ _ (Rp.ext _ HX.out HB2.out) HY.out).mono ?_
  rintro e w5 ⟨rfl, n, rfl⟩
  rw [decide_eq_true rfl]
  go_wp2_with fail
  refine (awake_any _).mono ?_
  rintro e w6 ⟨rfl, hb6⟩
  have B6 := Lib.hid (ext_trans (below_drewN B2.out n) hb6)
  clear hb6
  go_wp2
  go_ret
  exact ⟨rfl, B6.out⟩
end Go.Proofs.Ytofahmdjhpbecaa
