/-
  The law 'CareTreesMatchSpec' walked: it returns true.
-/
import Derived.Test.YtnnoolemmnailaaDoorTypesC
import Derived.Test.YtnnoolemmnailaaDoorTreeTop
import Derived.Test.YtnnoolemmnailaaDoorAwake11
namespace Go.Proofs.YtnnoolemmnailaaDoor
open Go.RowKit
set_option linter.unusedVariables false
set_option linter.unusedSimpArgs false

theorem eqStrs_same (v1 v2 : Value) (a : List ByteArray) (w : World) (S T : Nat → Prop) (h1 : (Rp.sl Rp.str).ok w S [v1] a) (h2 : (Rp.sl Rp.str).ok w T [v2] a) :
    Calls Tryd.prog 31 #[v1, v2] w fun e w' => e = .returned (.bool true) ∧ ∃ n, w' = w.drewN n :=
  (eqStrs_any v1 v2 a a w S T h1 h2).mono (by rintro e w' ⟨rfl, h⟩; exact ⟨by rw [decide_eq_true rfl], h⟩)
set_option maxRecDepth 100000 in
set_option maxHeartbeats 1000000 in
theorem sameRows_any (v1 v2 : Value) (t : List (List Str8)) (w : World) (S T : Nat → Prop) (h1 : (Rp.sl rowRp).ok w S [v1] t) (h2 : (Rp.sl rowRp).ok w T [v2] t) :
    Calls Tryd.prog 45 #[v1, v2] w fun e w' => e = .returned (.bool true) ∧ Drawn w w' := by
  obtain ⟨A, c, rfl, hl1, hc1, _⟩ := Rp.sl_open h1
  obtain ⟨B, d, rfl, hl2, hc2, _⟩ := Rp.sl_open h2
  unfold maxLen at hc1 hc2
  have H1 := Lib.hid h1
  have H2 := Lib.hid h2
  clear h1 h2
  go_enter Tryd.func45, Tryd.ntmps45
  go_wp2
  go_loopw [13] (fun i wr => ∃ k : Nat, k ≤ t.length ∧ i = .int .i64 k ∧ Hid (Drawn w wr)) (fun i _ => t.length - (intOf i).toNat)
  case atStart => exact ⟨0, Nat.zero_le _, rfl, Drawn.refl w⟩
  case round =>
    obtain ⟨k, hk, rfl, HW⟩ := hrel
    by_cases hlt : k < t.length
    · obtain ⟨ad, c', x1, e1, _, c0, hr⟩ := tree_at (Rp.drawn _ H1.out HW.out) hlt
      cases e1
      obtain ⟨ad2, c'', x2, e2, _, d0, kr⟩ := tree_at (Rp.drawn _ H2.out HW.out) hlt
      cases e2
      obtain ⟨A3, c3', rfl, _⟩ := Rp.sl_open hr
      obtain ⟨A5, c5', rfl, _⟩ := Rp.sl_open kr
      rw [List.length_map] at hr kr c0 d0
      have E1 := Lib.hid hr
      have E3 := Lib.hid kr
      clear hr kr
      generalize t[k] = x at *
      go_wp2
      go_quiet ((go_at_call 31; exact Calls.quiet_of (eqStrs_same _ _ _ _ _ _ (Rp.drewN _ E1.out _) (Rp.drewN _ E3.out _))))
      go_wp2
      go_roundw
      case rel => exact ⟨k + 1, by omega, by go_num, HW.out.more _⟩
      case measure => simp [intOf]; omega
    · obtain rfl : k = t.length := by omega
      go_wp2
      go_ret
      exact ⟨rfl, HW.out⟩
set_option maxRecDepth 100000 in
set_option maxHeartbeats 1000000 in
theorem treesLaw_any (v0 : Value) (l : List Leaf) (w : World) (h0 : (Rp.sl leafRp).ok w (· < w.heap.size) [v0] l) (f0 : (Rp.sl leafRp).fits l) :
    Calls Tryd.prog 9 #[v0] w fun e w' => e = .returned (.bool true) ∧ Below w.heap.size w w' := by
  have H0 := Lib.hid h0
  clear f0 h0
  go_enter Tryd.func9, Tryd.ntmps9
  go_wp2_with fail
  refine (treeTop_any v0 l w H0.out).mono ?_
  rintro e w1 ⟨x, rfl, hx, hb1⟩
  have HX1 := Lib.hid hx
  have H01 := Lib.hid (Rp.ext _ H0.out hb1)
  have HB1 := Lib.hid hb1
  clear hb1 hx H0
  go_wp2_with fail
  refine (refTreeTop_any v0 l w1 H01.out).mono ?_
  rintro e w2 ⟨y, rfl, hy, hb2⟩
  have HY2 := Lib.hid hy
  have HX2 := Lib.hid (Rp.ext _ HX1.out hb2)
  have H02 := Lib.hid (Rp.ext _ H01.out hb2)
  have HB2 := Lib.hid (ext_trans HB1.out hb2)
  clear hb2 hy H01 HX1 HB1
  generalize treeTopL l = t at *
  go_wp2_with fail
  refine (sameRows_any x y t w2 _ _ HX2.out HY2.out).mono ?_
  rintro e w3 ⟨rfl, hd3⟩
  have HB3 := Lib.hid (hd3.below HB2.out)
  have hb3 : Below w2.heap.size w2 w3 := hd3.below (Below.refl _ _)
  have H03 := Lib.hid (Rp.ext _ H02.out hb3)
  clear hb3 hd3 H02 HX2 HY2 HB2
  go_wp2_with fail
  refine (root_any v0 l w3 H03.out).mono ?_
  rintro e w4 ⟨rfl, hb4⟩
  have H04 := Lib.hid (Rp.ext _ H03.out hb4)
  have HB4 := Lib.hid (ext_trans HB3.out hb4)
  clear hb4 H03 HB3
  go_wp2_with fail
  refine (refRoot_any v0 l w4 H04.out).mono ?_
  rintro e w5 ⟨rfl, hb5⟩
  have HB5 := Lib.hid (ext_trans HB4.out hb5)
  clear hb5 H04 HB4
  generalize rootTopL l = s at *
  generalize leavesFault l = f at *
  go_wp2_with fail
  refine (awake_any _).mono ?_
  rintro e w6 ⟨rfl, hb6⟩
  have HB6 := Lib.hid (ext_trans HB5.out hb6)
  clear hb6
  go_wp2_with fail
  go_ret
  exact ⟨rfl, HB6.out⟩
end Go.Proofs.YtnnoolemmnailaaDoor
