/-
  The law 'AlikeResemblancesAreMutual' walked: it returns true.
-/
import Derived.Test.YtllbklnljmgppaaBlkR
import Derived.Test.YtllbklnljmgppaaContA
import Derived.Test.YtllbklnljmgppaaContC
import Derived.Test.YtllbklnljmgppaaMutP
namespace Go.Proofs.Ytllbklnljmgppaa
open Go.RowKit
set_option linter.unusedVariables false

set_option maxRecDepth 100000 in
set_option maxHeartbeats 4000000 in
theorem mutualLaw_any (v0 : Value) (s0 : ByteArray) (v1 : Value) (s1 : ByteArray) (v2 : Value) (n : Int) (w : World) (h0 : Rp.str.ok w (· < w.heap.size) [v0] s0) (f0 : Rp.str.fits s0)
    (h1 : Rp.str.ok w (· < w.heap.size) [v1] s1) (f1 : Rp.str.fits s1) (h2 : (Rp.int .i64).ok w (· < w.heap.size) [v2] n) (f2 : (Rp.int .i64).fits n) :
    Calls Try.prog 5 #[v0, v1, v2] w fun e w' => e = .returned (.bool true) ∧ Below w.heap.size w w' := by
  obtain ⟨e0, z0⟩ := h0
  injection e0 with e0
  subst e0
  obtain ⟨e1, z1⟩ := h1
  injection e1 with e1
  subst e1
  obtain ⟨e2, z2⟩ := h2
  injection e2 with e2
  subst e2
  obtain ⟨a, rfl⟩ : ∃ a, s0 = bstr a := ⟨_, (bstr_eq s0).symm⟩
  obtain ⟨b, rfl⟩ : ∃ b, s1 = bstr b := ⟨_, (bstr_eq s1).symm⟩
  rw [bstr_size] at z0 z1
  clear f0 f1 f2 z2
  go_enter Try.func5, Try.ntmps5
  obtain ⟨x, y, hxy⟩ : ∃ x y : Nat, qRes a b n = (x, y) := ⟨_, _, rfl⟩
  have HX := Lib.hid hxy
  have HXC := Lib.hid ((qRes_comm a b n).trans hxy)
  have HFC := Lib.hid (askF_comm a b n)
  obtain ⟨f, hfa⟩ : ∃ f, askF a b n = f := ⟨_, rfl⟩
  have HFA := Lib.hid hfa
  clear hfa hxy
  have hf : (f != f) = false := by simp
  have hfe : (f == f) = true := by simp
  go_wp2_with fail
  refine (resA_any a b n w z0 z1).mono ?_
  rintro e w1 ⟨rfl, hb1⟩
  rw [HX.out, HFA.out, show pairV (x, y) = .agg #[.int .i64 (x : Nat), .int .i64 (y : Nat)] from rfl]
  have HB1 := Lib.hid hb1
  clear hb1
  go_wp2_with fail
  have hk1 := Blk.new w1 37 [.int .i64 (x : Nat), .int .i64 (y : Nat)]
  refine (resA_any b a n _ z1 z0).mono ?_
  rintro e w2 ⟨rfl, hb2⟩
  rw [HXC.out, HFC.out, HFA.out, show pairV (x, y) = .agg #[.int .i64 (x : Nat), .int .i64 (y : Nat)] from rfl]
  have hk2 := ((hk1.same (same_below hb2) hk1.lt)).allocR (.cells #[.int .i64 x, .int .i64 y] 37)
  have HB2 := Lib.hid (below_trans2 (HB1.out.alloc HB1.out.size (.cells #[.int .i64 x, .int .i64 y] 37)) hb2 (HB1.out.alloc HB1.out.size (.cells #[.int .i64 x, .int .i64 y] 37)).size)
  have c0 : _ = some (Value.int .i64 (x : Nat)) := hk2.cell 0
  have c1 : _ = some (Value.int .i64 (y : Nat)) := hk2.cell 1
  have hx : ((x : Int) == (x : Int)) = true := by simp
  have hy : ((y : Int) == (y : Int)) = true := by simp
  have HK2 := Lib.hid hk2
  have HB3 := Lib.hid (HB2.out.alloc HB2.out.size (.cells #[.int .i64 x, .int .i64 y] 37))
  clear hk1 hk2 hb2 HB2
  go_wp2_with fail
  clear c0 c1 hx hy HB1 HXC HFC
  generalize w2.alloc (.cells #[.int .i64 x, .int .i64 y] 37) = w3 at *
  generalize w1.heap.size = g1 at *
  refine (awake_any _).mono ?_
  rintro e w4 ⟨rfl, hb4⟩
  have hk4 := HK2.out.same (same_below hb4) HK2.out.lt
  have HB4 := Lib.hid (below_trans2 HB3.out hb4 HB3.out.size)
  clear hb4 HB3 HK2
  by_cases h0 : f = 0
  case neg =>
    have hne : (f != 0) = true := by simpa using h0
    have h00 : (x, y) = (0, 0) := HX.out.symm.trans (qRes_fault (by rw [HFA.out]; exact h0))
    obtain ⟨rfl, rfl⟩ := Prod.mk.inj h00
    have c1 : _ = some (Value.int .i64 ((0 : Nat) : Int)) := hk4.cell 1
    clear h00 h0
    go_wp2_with fail
    go_ret
    exact ⟨rfl, HB4.out⟩
  case pos =>
    subst h0
    have HK4 := Lib.hid hk4
    clear hk4 hf hfe
    obtain ⟨x', y', hxy'⟩ : ∃ x y : Nat, qCon a b n = (x, y) := ⟨_, _, rfl⟩
    obtain ⟨b1, b2, b3, b4, b5⟩ := q_facts HFA.out
    have HS := Lib.hid (qRes_self HFA.out)
    have HSA := Lib.hid (askF_self HFA.out)
    have HX' := Lib.hid hxy'
    rw [HX.out, hxy'] at b5
    rw [HX.out] at b1 b2
    rw [hxy'] at b3 b4
    clear hxy'
    have b1 : x ≤ 40002 := b1
    have b2 : y ≤ 40002 := b2
    have b3 : x' ≤ 40002 := b3
    have b4 : y' ≤ 40002 := b4
    have b5 : x * y' ≤ x' * y := b5
    have B5 := Lib.hid b5
    clear b5
    go_wp2_with fail
    refine (resA_any a a n _ z0 z0).mono ?_
    rintro e w5 ⟨rfl, hb5⟩
    rw [HS.out, HSA.out, show pairV (1, 1) = .agg #[.int .i64 1, .int .i64 1] from rfl]
    have hk5 := (HK4.out.same (same_below hb5) HK4.out.lt).allocR (.cells #[.int .i64 1, .int .i64 1] 37)
    have hs5 := Blk.new w5 37 [.int .i64 1, .int .i64 1]
    have HB5 := Lib.hid (below_trans2 HB4.out hb5 HB4.out.size)
    have HB6 := Lib.hid (HB5.out.alloc HB5.out.size (.cells #[.int .i64 1, .int .i64 1] 37))
    clear hb5 HB4 HK4 HS HSA HB5
    go_wp2_with fail
    refine (conA_any a b n _ z0 z1).mono ?_
    rintro e w7 ⟨rfl, hb7⟩
    rw [HX'.out, HFA.out, show pairV (x', y') = .agg #[.int .i64 (x' : Nat), .int .i64 (y' : Nat)] from rfl]
    have hk7 := ((hk5.same (same_below hb7) hk5.lt).allocR (.cells #[.int .i64 x', .int .i64 y'] 37)).allocR (.cells #[.int .i64 1, .int .i64 1] 37)
    have hs7 := ((hs5.same (same_below hb7) hs5.lt).allocR (.cells #[.int .i64 x', .int .i64 y'] 37)).allocR (.cells #[.int .i64 1, .int .i64 1] 37)
    have hc7 := (Blk.new w7 37 [.int .i64 (x' : Nat), .int .i64 (y' : Nat)]).allocR (.cells #[.int .i64 1, .int .i64 1] 37)
    have HB7 := Lib.hid (below_trans2 HB6.out hb7 HB6.out.size)
    have HB8 := Lib.hid (HB7.out.alloc HB7.out.size (.cells #[.int .i64 x', .int .i64 y'] 37))
    have HB9 := Lib.hid (HB8.out.alloc HB8.out.size (.cells #[.int .i64 1, .int .i64 1] 37))
    have c0 : _ = some (Value.int .i64 (x : Nat)) := hk7.cell 0
    have c1 : _ = some (Value.int .i64 (y : Nat)) := hk7.cell 1
    have d0 : _ = some (Value.int .i64 1) := hs7.cell 0
    have d1 : _ = some (Value.int .i64 1) := hs7.cell 1
    have e0 : _ = some (Value.int .i64 (x' : Nat)) := hc7.cell 0
    have e1 : _ = some (Value.int .i64 (y' : Nat)) := hc7.cell 1
    have m1 : x * y' ≤ 40002 * 40002 := Nat.mul_le_mul b1 b4
    have m2 : x' * y ≤ 40002 * 40002 := Nat.mul_le_mul b3 b2
    have n1 : (x : Int) * (y' : Int) = ((x * y' : Nat) : Int) := (Int.natCast_mul _ _).symm
    have n2 : (x' : Int) * (y : Int) = ((x' * y : Nat) : Int) := (Int.natCast_mul _ _).symm
    have i1 : IntKind.i64.wrap ((x : Int) * (y' : Int)) = (x : Int) * (y' : Int) := IntWalk.i64_in _ (by rw [n1]; omega)
    have i2 : IntKind.i64.wrap ((x' : Int) * (y : Int)) = (x' : Int) * (y : Int) := IntWalk.i64_in _ (by rw [n2]; omega)
    have i3 : decide ((x : Int) * (y' : Int) ≤ (x' : Int) * (y : Int)) = true := decide_eq_true (by rw [n1, n2]; have := B5.out; omega)
    clear n1 n2
    clear hk5 hs5 hb7 HB6 HB7 HB8 hk7 hs7 hc7 m1 m2 b1 b2 b3 b4 B5
    go_wp2_with fail
    go_ret
    exact ⟨by first | rfl | (rw [← i3]; rfl), HB9.out⟩
end Go.Proofs.Ytllbklnljmgppaa
