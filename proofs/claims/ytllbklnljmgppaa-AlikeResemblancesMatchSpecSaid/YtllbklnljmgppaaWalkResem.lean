/-
  The law 'AlikeResemblancesMatchSpec' walked: it returns true.
-/
import Derived.Test.YtllbklnljmgppaaBlkR
import Derived.Test.YtllbklnljmgppaaContA
import Derived.Test.YtllbklnljmgppaaContB
import Derived.Test.YtllbklnljmgppaaContC
import Derived.Test.YtllbklnljmgppaaContD
namespace Go.Proofs.Ytllbklnljmgppaa
open Go.RowKit
set_option linter.unusedVariables false

set_option maxRecDepth 100000 in
set_option maxHeartbeats 4000000 in
theorem resemLaw_any (v0 : Value) (s0 : ByteArray) (v1 : Value) (s1 : ByteArray) (v2 : Value) (n : Int) (w : World) (h0 : Rp.str.ok w (· < w.heap.size) [v0] s0) (f0 : Rp.str.fits s0)
    (h1 : Rp.str.ok w (· < w.heap.size) [v1] s1) (f1 : Rp.str.fits s1) (h2 : (Rp.int .i64).ok w (· < w.heap.size) [v2] n) (f2 : (Rp.int .i64).fits n) :
    Calls Try.prog 7 #[v0, v1, v2] w fun e w' => e = .returned (.bool true) ∧ Below w.heap.size w w' := by
  obtain ⟨e0, z0⟩ := h0
  injection e0 with e0
  subst e0
  obtain ⟨e1, z1⟩ := h1
  injection e1 with e1
  subst e1
  obtain ⟨e2, z2⟩ := h2
  injection e2 with e2
  subst e2
  obtain ⟨a, rfl⟩ : ∃ a, s0 = bstr a := ⟨_, (bstr_eq s0).symm⟩
  obtain ⟨b, rfl⟩ : ∃ b, s1 = bstr b := ⟨_, (bstr_eq s1).symm⟩
  rw [bstr_size] at z0 z1
  clear f0 f1 f2 z2
  go_enter Try.func7, Try.ntmps7
  obtain ⟨x, y, hxy⟩ : ∃ x y : Nat, qRes a b n = (x, y) := ⟨_, _, rfl⟩
  obtain ⟨x', y', hxy'⟩ : ∃ x y : Nat, qCon a b n = (x, y) := ⟨_, _, rfl⟩
  have HX := Lib.hid hxy
  have HX' := Lib.hid hxy'
  clear hxy hxy'
  have hf : (askF a b n != askF a b n) = false := by simp
  have hfe : (askF a b n == askF a b n) = true := by simp
  obtain ⟨f, hfa⟩ : ∃ f, askF a b n = f := ⟨_, rfl⟩
  have HFA := Lib.hid hfa
  rw [hfa] at hf hfe
  clear hfa
  go_wp2_with fail
  refine (resA_any a b n w z0 z1).mono ?_
  rintro e w1 ⟨rfl, hb1⟩
  rw [HX.out, HFA.out, show pairV (x, y) = .agg #[.int .i64 (x : Nat), .int .i64 (y : Nat)] from rfl]
  have HB1 := Lib.hid hb1
  clear hb1
  go_wp2_with fail
  have hk1 := Blk.new w1 37 [.int .i64 (x : Nat), .int .i64 (y : Nat)]
  refine (refResA_any a b n _ z0 z1).mono ?_
  rintro e w2 ⟨rfl, hb2⟩
  rw [HX.out, HFA.out, show pairV (x, y) = .agg #[.int .i64 (x : Nat), .int .i64 (y : Nat)] from rfl]
  have hk2 := ((hk1.same (same_below hb2) hk1.lt)).allocR (.cells #[.int .i64 x, .int .i64 y] 37)
  have hkr := Blk.new w2 37 [.int .i64 (x : Nat), .int .i64 (y : Nat)]
  have hne : w1.heap.size < w2.heap.size := by have := hb2.size; simp at this; omega
  have HB2 := Lib.hid (below_trans2 (HB1.out.alloc HB1.out.size (.cells #[.int .i64 x, .int .i64 y] 37)) hb2 (HB1.out.alloc HB1.out.size (.cells #[.int .i64 x, .int .i64 y] 37)).size)
  have c0 : _ = some (Value.int .i64 (x : Nat)) := hk2.cell 0
  have c1 : _ = some (Value.int .i64 (y : Nat)) := hk2.cell 1
  have hx : ((x : Int) == (x : Int)) = true := by simp
  have hy : ((y : Int) == (y : Int)) = true := by simp
  have HK2 := Lib.hid hk2
  have HKR := Lib.hid hkr
  have HB3 := Lib.hid (HB2.out.alloc HB2.out.size (.cells #[.int .i64 x, .int .i64 y] 37))
  clear hk1 hk2 hb2 HB2 hkr
  have hg1 := HB1.out.size
  have hg2 := Nat.le_trans hg1 (Nat.le_of_lt hne)
  go_wp2_with fail
  clear c0 c1 hx hy HB1
  generalize w2.alloc (.cells #[.int .i64 x, .int .i64 y] 37) = w3 at *
  generalize w1.heap.size = g1 at *
  generalize w2.heap.size = g2 at *
  refine (conA_any a b n _ z0 z1).mono ?_
  rintro e w4 ⟨rfl, hb4⟩
  rw [HX'.out, HFA.out, show pairV (x', y') = .agg #[.int .i64 (x' : Nat), .int .i64 (y' : Nat)] from rfl]
  have hk4 := HK2.out.same (same_below hb4) HK2.out.lt
  have hr4 := HKR.out.same (same_below hb4) HKR.out.lt
  have c0 := hk4.cell 0
  have c1 := hk4.cell 1
  have f0 := hk4.frozen 0
  have f1 := hk4.frozen 1
  have c0 : _ = some (Value.int .i64 x) := c0
  have c1 : _ = some (Value.int .i64 y) := c1
  have HK5 := Lib.hid ((hk4.set_ 0 (.int .i64 x')).set_ 1 (.int .i64 y'))
  have HR5 := Lib.hid ((hr4.setR (Nat.ne_of_gt hne) (i := 0) (.int .i64 x')).setR (Nat.ne_of_gt hne) (i := 1) (.int .i64 y'))
  have HB5 := Lib.hid (((below_trans2 HB3.out hb4 HB3.out.size).setCell (p := ⟨g1, 0, none⟩) hg1 (.int .i64 x')).setCell (p := ⟨g1, 1, none⟩) hg1 (.int .i64 y'))
  clear hk4 hr4 hb4 HB3 HK2 HKR
  go_wp2_with fail
  clear c0 c1 f0 f1
  generalize (w4.setCell _ _).setCell _ _ = w5 at *
  refine (refConA_any a b n _ z0 z1).mono ?_
  rintro e w6 ⟨rfl, hb6⟩
  rw [HX'.out, HFA.out, show pairV (x', y') = .agg #[.int .i64 (x' : Nat), .int .i64 (y' : Nat)] from rfl]
  have hk6 := HK5.out.same (same_below hb6) HK5.out.lt
  have hr6 := HR5.out.same (same_below hb6) HR5.out.lt
  have c0 : _ = some (Value.int .i64 x) := hr6.cell 0
  have c1 : _ = some (Value.int .i64 y) := hr6.cell 1
  have f0 := hr6.frozen 0
  have f1 := hr6.frozen 1
  have hk7 := (hk6.setR (Nat.ne_of_lt hne) (i := 0) (.int .i64 x')).setR (Nat.ne_of_lt hne) (i := 1) (.int .i64 y')
  have d0 : _ = some (Value.int .i64 x') := hk7.cell 0
  have d1 : _ = some (Value.int .i64 y') := hk7.cell 1
  have hr7 := (hr6.set_ 0 (.int .i64 x')).set_ 1 (.int .i64 y')
  have d2 : _ = some (Value.int .i64 x') := hr7.cell 0
  have d3 : _ = some (Value.int .i64 y') := hr7.cell 1
  have hx : ((x' : Int) == (x' : Int)) = true := by simp
  have hy : ((y' : Int) == (y' : Int)) = true := by simp
  have HB7 := Lib.hid (((below_trans2 HB5.out hb6 HB5.out.size).setCell (p := ⟨g2, 0, none⟩) hg2 (.int .i64 x')).setCell (p := ⟨g2, 1, none⟩) hg2 (.int .i64 y'))
  clear hk6 hr6 hb6 HB5 HK5 HR5 hk7 hr7
  go_wp2_with fail
  refine (awake_any _).mono ?_
  rintro e w10 ⟨rfl, hb10⟩
  have HB10 := Lib.hid (ext_trans HB7.out hb10)
  clear hb10
  go_wp2
  go_ret
  exact ⟨rfl, HB10.out⟩
end Go.Proofs.Ytllbklnljmgppaa
