/-
  The law 'AlikeChangesMatchSpec' walked: it returns true.
-/
import Derived.Test.YtofahmdjhpbecaaDig
import Derived.Test.YtofahmdjhpbecaaChanged
import Derived.Test.YtofahmdjhpbecaaSameCh
namespace Go.Proofs.Ytofahmdjhpbecaa
open Go.RowKit
set_option linter.unusedVariables false

set_option maxRecDepth 100000 in
set_option maxHeartbeats 1000000 in
theorem changesLaw_any (v0 : Value) (s0 : ByteArray) (v1 : Value) (s1 : ByteArray) (w : World) (h0 : Rp.str.ok w (· < w.heap.size) [v0] s0) (f0 : Rp.str.fits s0)
    (h1 : Rp.str.ok w (· < w.heap.size) [v1] s1) (f1 : Rp.str.fits s1) :
    Calls Try.prog 7 #[v0, v1] w fun e w' => e = .returned (.bool true) ∧ Below w.heap.size w w' := by
  obtain ⟨e0, z0⟩ := h0
  injection e0 with e0
  subst e0
  obtain ⟨e1, z1⟩ := h1
  injection e1 with e1
  subst e1
  obtain ⟨a, rfl⟩ : ∃ a, s0 = bstr a := ⟨_, (bstr_eq s0).symm⟩
  obtain ⟨b, rfl⟩ : ∃ b, s1 = bstr b := ⟨_, (bstr_eq s1).symm⟩
  rw [bstr_size] at z0 z1
  clear f0 f1
  go_enter Try.func7, Try.ntmps7
  go_wp2_with fail
  refine (linesTop_any a w z0).mono ?_
  rintro e w1 ⟨x, rfl, hx, hb1⟩
  have HX := Lib.hid hx
  have HB1 := Lib.hid hb1
  clear hx hb1
  go_wp2_with fail
  refine (refLinesTop_any a w1 z0).mono ?_
  rintro e w2 ⟨y, rfl, hy, hb2⟩
  have HX2 := Lib.hid (Rp.ext _ HX.out hb2)
  have HY := Lib.hid hy
  have HB2 := Lib.hid (ext_trans HB1.out hb2)
  clear hy hb2 HX
  go_wp2_with fail
  refine (eqStrs_any _ _ (linesOut a) (linesOut a) w2 _ _ HX2.out HY.out).mono ?_
  rintro e w3 ⟨rfl, n, rfl⟩
  rw [decide_eq_true rfl]
  have HB3 := Lib.hid (below_drewN HB2.out n)
  go_wp2_with fail
  refine (changesTop_any a b (w2.drewN n) z0 z1).mono ?_
  rintro e w4 ⟨p, rfl, hp, hb4⟩
  have HP := Lib.hid hp
  have HB4 := Lib.hid (ext_trans HB3.out hb4)
  clear hp hb4
  go_wp2_with fail
  refine (refChanges_any a b w4 z0 z1).mono ?_
  rintro e w5 ⟨q, rfl, hq, hb5⟩
  have HP2 := Lib.hid (Rp.ext _ HP.out hb5)
  have HQ := Lib.hid hq
  have HB5 := Lib.hid (ext_trans HB4.out hb5)
  clear hq hb5 HP
  go_wp2_with fail
  refine (sameChanges_any _ _ (chgL a b) (chgL a b) w5 _ _ HP2.out HQ.out).mono ?_
  rintro e w6 ⟨rfl, n6, rfl⟩
  rw [decide_eq_true rfl]
  have HB6 := Lib.hid (below_drewN HB5.out n6)
  go_wp2_with fail
  refine (changed_any a b _ z0 z1).mono ?_
  rintro e w7 ⟨rfl, hb7⟩
  have HB7 := Lib.hid (ext_trans HB6.out hb7)
  clear hb7
  obtain ⟨r, s, hrs⟩ : ∃ r s : Int, ratC a b = .agg #[.int .i64 r, .int .i64 s] := by
    unfold ratC
    split
    · split
      · exact ⟨_, _, rfl⟩
      · exact ⟨_, _, rfl⟩
    · exact ⟨_, _, rfl⟩
  have HRS := Lib.hid hrs
  rw [hrs]
  clear hrs
  go_wp2_with fail
  refine (refChanged_any a b _ z0 z1).mono ?_
  rintro e w8 ⟨rfl, hb8⟩
  rw [HRS.out]
  have hk := ((Blk.new w7 62 [.int .i64 r, .int .i64 s]).same (same_below hb8) (by simp)).alloc_old (.cells #[.int .i64 r, .int .i64 s] 62)
  have c0 := hk.cell 0
  have c1 := hk.cell 1
  have HB8 := Lib.hid (ext_trans (HB7.out.alloc HB7.out.size (.cells #[.int .i64 r, .int .i64 s] 62)) hb8)
  have hb9 := HB8.out.alloc HB8.out.size (.cells #[.int .i64 r, .int .i64 s] 62)
  have HB9 := Lib.hid hb9
  clear hk hb8 hb9
  go_wp2_with fail
  refine (awake_any _).mono ?_
  rintro e w10 ⟨rfl, hb10⟩
  have HB10 := Lib.hid (ext_trans HB9.out hb10)
  clear hb10
  go_wp2
  go_ret
  exact ⟨rfl, HB10.out⟩
end Go.Proofs.Ytofahmdjhpbecaa
