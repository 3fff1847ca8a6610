/-
  The law 'AlikeWordsMatchSpec' walked: it returns true.
-/
import Derived.Test.YtllbklnljmgppaaShAll
import Derived.Test.YtllbklnljmgppaaEq
namespace Go.Proofs.Ytllbklnljmgppaa
open Go.RowKit
set_option linter.unusedVariables false

set_option maxRecDepth 100000 in
set_option maxHeartbeats 2000000 in
theorem wordsLaw_any (v0 : Value) (s0 : ByteArray) (v1 : Value) (n : Int) (w : World) (h0 : Rp.str.ok w (· < w.heap.size) [v0] s0) (f0 : Rp.str.fits s0)
    (h1 : (Rp.int .i64).ok w (· < w.heap.size) [v1] n) (f1 : (Rp.int .i64).fits n) :
    Calls Try.prog 4 #[v0, v1] w fun e w' => e = .returned (.bool true) ∧ Below w.heap.size w w' := by
  obtain ⟨e0, z0⟩ := h0
  injection e0 with e0
  subst e0
  obtain ⟨e1, z1⟩ := h1
  injection e1 with e1
  subst e1
  obtain ⟨a, rfl⟩ : ∃ a, s0 = bstr a := ⟨_, (bstr_eq s0).symm⟩
  rw [bstr_size] at z0
  clear f0 f1 z1
  go_enter Try.func4, Try.ntmps4
  go_wp2_with fail
  refine (wordsAll_any a w z0).mono ?_
  rintro e w1 ⟨x, rfl, hx, hb1⟩
  have HX := Lib.hid hx
  have HB1 := Lib.hid hb1
  clear hx hb1
  go_wp2_with fail
  refine (refWordsAll_any a w1 z0).mono ?_
  rintro e w2 ⟨y, rfl, hy, hb2⟩
  have HX2 := Lib.hid (wordsO_read (own_belowU HX.out hb2))
  have HY := Lib.hid (wordsO_read hy)
  have HB2 := Lib.hid (ext_trans HB1.out hb2)
  clear hy hb2 HX HB1
  generalize txF a = f at *
  have hff : (f != f) = false := by simp
  have hfe : (f == f) = true := by simp
  go_wp2_with fail
  refine (eqStrs_any _ _ _ _ w2 _ _ HX2.out HY.out).mono ?_
  rintro e w3 ⟨rfl, q3, rfl⟩
  rw [decide_eq_true rfl]
  have HB3 := Lib.hid (below_drewN HB2.out q3)
  clear HX2 HY HB2
  generalize w2.drewN q3 = w3 at *
  go_wp2_with fail
  refine (shAll_any a n w3 z0).mono ?_
  rintro e w4 ⟨x, rfl, hx, hb4⟩
  have HX := Lib.hid hx
  have HB4 := Lib.hid (ext_trans HB3.out hb4)
  clear hx hb4 HB3
  go_wp2_with fail
  refine (refShAll_any a n w4 z0).mono ?_
  rintro e w5 ⟨y, rfl, hy, hb5⟩
  have HX2 := Lib.hid (shO_read (own_belowU HX.out hb5))
  have HY := Lib.hid (shO_read hy)
  have HB5 := Lib.hid (ext_trans HB4.out hb5)
  clear hy hb5 HX HB4 hff hfe
  generalize shF a n = f at *
  have hfe : (f == f) = true := by simp
  go_wp2_with fail
  refine (eqU64_any _ _ _ _ w5 _ _ HX2.out HY.out).mono ?_
  rintro e w6 ⟨rfl, q6, rfl⟩
  rw [decide_eq_true rfl]
  have HB6 := Lib.hid (below_drewN HB5.out q6)
  clear HX2 HY HB5
  generalize w5.drewN q6 = w6 at *
  go_wp2_with fail
  refine (awake_any _).mono ?_
  rintro e w7 ⟨rfl, hb7⟩
  have B7 := Lib.hid (ext_trans HB6.out hb7)
  clear hb7
  go_wp2
  go_ret
  exact ⟨rfl, B7.out⟩
end Go.Proofs.Ytllbklnljmgppaa
