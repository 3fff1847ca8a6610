/-
  The law 'CareProofsMatchSpec' walked: it returns true.
-/
import Derived.Test.YtnnoolemmnailaaDoorTypesC
import Derived.Test.YtnnoolemmnailaaDoorRefClimb
import Derived.Test.YtnnoolemmnailaaDoorAwake11
namespace Go.Proofs.YtnnoolemmnailaaDoor
open Go.RowKit
set_option linter.unusedVariables false
set_option linter.unusedSimpArgs false

theorem opens_side : Opens Tryd.prog 39 sideRp := by
  refine opens_via _ (fun (p : ByteArray × Bool) => ⟨p.1.data.toList, p.2⟩) (fun p => by rw [bstr_eq]) ?_
  refine opens_struct Tryd.underlying39 (by kernel_rfl) ?_
  refine opensF_cons (by rfl) (by kernel_rfl) (opens_str Tryd.underlying9) ?_
  exact opensF_one (by rfl) (by kernel_rfl) (opens_bool Tryd.underlying4)
theorem opens_sides : Opens Tryd.prog 28 (Rp.sl sideRp) := opens_sl Tryd.underlying28 (by kernel_rfl) (by decide) (of_decide_eq_true (by kernel_rfl)) opens_side
set_option maxRecDepth 100000 in
set_option maxHeartbeats 1000000 in
theorem eqSides_same (v1 v2 : Value) (l : List Side) (w : World) (S T : Nat → Prop) (h1 : (Rp.sl sideRp).ok w S [v1] l) (h2 : (Rp.sl sideRp).ok w T [v2] l) :
    Calls Tryd.prog 22 #[v1, v2] w fun e w' => e = .returned (.bool true) ∧ Drawn w w' := by
  obtain ⟨A, c, rfl, hl1, hc1, _⟩ := Rp.sl_open h1
  obtain ⟨B, d, rfl, hl2, hc2, _⟩ := Rp.sl_open h2
  unfold maxLen at hc1 hc2
  have H1 := Lib.hid h1
  have H2 := Lib.hid h2
  clear h1 h2
  go_enter Tryd.func22, Tryd.ntmps22
  go_wp2
  go_loopw [13] (fun i wr => ∃ k : Nat, k ≤ l.length ∧ i = .int .i64 k ∧ Hid (Drawn w wr)) (fun i _ => l.length - (intOf i).toNat)
  case atStart => exact ⟨0, Nat.zero_le _, rfl, Drawn.refl w⟩
  case round =>
    obtain ⟨k, hk, rfl, HW⟩ := hrel
    by_cases hlt : k < l.length
    · obtain ⟨ad, c', e1, _, c0, c1, _⟩ := side_at (Rp.drawn _ H1.out HW.out) hlt
      cases e1
      obtain ⟨ad2, c'', e2, _, d0, d1, _⟩ := side_at (Rp.drawn _ H2.out HW.out) hlt
      cases e2
      generalize l[k] = x at *
      go_wp2
      go_quiet (fail)
      go_wp2
      go_roundw
      case rel => exact ⟨k + 1, by omega, by go_num, HW.out.more _⟩
      case measure => simp [intOf]; omega
    · obtain rfl : k = l.length := by omega
      go_wp2
      go_ret
      exact ⟨rfl, HW.out⟩
set_option maxRecDepth 100000 in
set_option maxHeartbeats 1000000 in
theorem proofsLaw_any (v0 : Value) (l : List Leaf) (v1 : Value) (n : Int) (cs : Array Value) (x : Leaf) (v3 : Value) (sd : List Side) (w : World) (h0 : (Rp.sl leafRp).ok w (· < w.heap.size) [v0] l) (f0 : (Rp.sl leafRp).fits l)
    (h1 : (Rp.int .i64).ok w (· < w.heap.size) [v1] n) (f1 : (Rp.int .i64).fits n) (h2 : leafRp.ok w (· < w.heap.size) cs.toList x) (f2 : leafRp.fits x) (h3 : (Rp.sl sideRp).ok w (· < w.heap.size) [v3] sd) (f3 : (Rp.sl sideRp).fits sd) :
    Calls Tryd.prog 4 #[v0, v1, .agg cs, v3] w fun e w' => e = .returned (.bool true) ∧ Below w.heap.size w w' := by
  obtain ⟨e1, hwf⟩ := h1
  injection e1 with e1
  subst e1
  obtain ⟨ecs, hz1, hz2⟩ := leaf_open h2
  obtain rfl : cs = #[.string (bstr x.key), .string (bstr x.digest)] := by apply Array.toList_inj.1; rw [ecs]
  unfold maxLen at hz1 hz2
  have hy1 : x.key.length ≤ 9223372036854775807 := by omega
  have hy2 : x.digest.length ≤ 9223372036854775807 := by omega
  have hab := (Below.refl w.heap.size w).alloc (Nat.le_refl _) (.cells #[.string (bstr x.key), .string (bstr x.digest)] 33)
  have hkb := Blk.new w 33 [.string (bstr x.key), .string (bstr x.digest)]
  have HAB := Lib.hid hab
  have HKB := Lib.hid hkb
  have H0 := Lib.hid (Rp.ext _ h0 hab)
  have H3 := Lib.hid (Rp.ext _ h3 hab)
  have HLT : Hid (w.heap.size < (w.alloc (.cells #[.string (bstr x.key), .string (bstr x.digest)] 33)).heap.size) := Lib.hid (by simp)
  have HWF := Lib.hid hwf
  clear f0 f1 f2 f3 h0 h2 h3 hab hkb ecs hz1 hz2 hwf
  go_enter Tryd.func4, Tryd.ntmps4
  go_wp2_with fail
  refine (proofTop_any v0 l n _ H0.out HWF.out).mono ?_
  rintro e w1 ⟨p, rfl, hp, hb1⟩
  have HP1 := Lib.hid hp
  have H01 := Lib.hid (Rp.ext _ H0.out hb1)
  have H31 := Lib.hid (Rp.ext _ H3.out hb1)
  have HB1 := Lib.hid (ext_trans HAB.out hb1)
  have HK1 := Lib.hid (HKB.out.same (same_below hb1) HLT.out)
  have HL1 : Hid (w.heap.size < w1.heap.size) := Lib.hid (by have := HLT.out; have := hb1.size; omega)
  clear hb1 hp H0 H3 HAB HKB HLT
  go_wp2_with fail
  refine (refProofTop_any v0 l n w1 H01.out HWF.out).mono ?_
  rintro e w2 ⟨q, rfl, hq, hb2⟩
  have HQ2 := Lib.hid hq
  have HP2 := Lib.hid (Rp.ext _ HP1.out hb2)
  have H32 := Lib.hid (Rp.ext _ H31.out hb2)
  have HB2 := Lib.hid (ext_trans HB1.out hb2)
  have HK2 := Lib.hid (HK1.out.same (same_below hb2) HL1.out)
  have HL2 : Hid (w.heap.size < w2.heap.size) := Lib.hid (by have := HL1.out; have := hb2.size; omega)
  clear hb2 hq H01 H31 HP1 HB1 HK1 HL1
  generalize proofTopL l n = t at *
  generalize proofFault l n = f at *
  go_wp2_with fail
  refine (eqSides_same p q t w2 _ _ HP2.out HQ2.out).mono ?_
  rintro e w3 ⟨rfl, hd3⟩
  have HB3 := Lib.hid (hd3.below HB2.out)
  have hb3 : Below w2.heap.size w2 w3 := hd3.below (Below.refl _ _)
  have H33 := Lib.hid (Rp.ext _ H32.out hb3)
  have HK3 := Lib.hid (HK2.out.same (same_below hb3) HL2.out)
  have HL3 : Hid (w.heap.size < w3.heap.size) := Lib.hid (by have := HL2.out; have := hb3.size; omega)
  have k0 : _ = some (Value.string (bstr x.key)) := HK3.out.cell 0
  have k1 : _ = some (Value.string (bstr x.digest)) := HK3.out.cell 1
  clear hb3 hd3 H32 HP2 HQ2 HB2 HK2 HL2
  go_wp2_with fail
  refine (climbTop_any x v3 sd w3 hy1 hy2 H33.out).mono ?_
  rintro e w4 ⟨rfl, hb4⟩
  have HB4 := Lib.hid (ext_trans HB3.out hb4)
  have H34 := Lib.hid (Rp.ext _ H33.out hb4)
  have hk4 := HK3.out.same (same_below hb4) HL3.out
  have j0 : _ = some (Value.string (bstr x.key)) := hk4.cell 0
  have j1 : _ = some (Value.string (bstr x.digest)) := hk4.cell 1
  clear hb4 H33 HB3 HK3 HL3 hk4 k0 k1
  go_wp2_with fail
  refine (refClimbTop_any x v3 sd w4 hy1 hy2 H34.out).mono ?_
  rintro e w5 ⟨rfl, hb5⟩
  have HB5 := Lib.hid (ext_trans HB4.out hb5)
  clear hb5 H34 HB4 j0 j1
  generalize climbTopL x sd = s at *
  generalize climbFault x sd = g at *
  go_wp2_with fail
  refine (awake_any _).mono ?_
  rintro e w6 ⟨rfl, hb6⟩
  have HB6 := Lib.hid (ext_trans HB5.out hb6)
  clear hb6
  go_wp2_with fail
  go_ret
  exact ⟨rfl, HB6.out⟩
end Go.Proofs.YtnnoolemmnailaaDoor
