/-
  'Climb' of the reference.
-/
import Derived.Test.YtnnoolemmnailaaDoorProg
import Derived.Test.YtnnoolemmnailaaDoorClimb
namespace Go.Proofs.YtnnoolemmnailaaDoor
open Go.RowKit
set_option linter.unusedVariables false
set_option linter.unusedSimpArgs false

set_option maxRecDepth 100000 in
set_option maxHeartbeats 4000000 in
theorem refClimbTop_any (x : Leaf) (v1 : Value) (l : List Side) (w : World) (hx1 : x.key.length ≤ 9223372036854775807) (hx2 : x.digest.length ≤ 9223372036854775807) (h1 : (Rp.sl sideRp).ok w (· < w.heap.size) [v1] l) :
    Calls Tryd.prog 23 #[.agg #[.string (bstr x.key), .string (bstr x.digest)], v1] w (ClimbTop x l w) := by
  obtain ⟨A, c, rfl, hl, hc, _⟩ := Rp.sl_open h1
  unfold maxLen at hc
  have hab := (Below.refl w.heap.size w).alloc (Nat.le_refl _) (.cells #[.string (bstr x.key), .string (bstr x.digest)] 33)
  have hkb := Blk.new w 33 [.string (bstr x.key), .string (bstr x.digest)]
  have HS := Lib.hid (Rp.ext _ h1 hab)
  have HAB := Lib.hid hab
  have HKB := Lib.hid hkb
  have k0 : _ = some (Value.string (bstr x.key)) := hkb.cell 0
  have k1 : _ = some (Value.string (bstr x.digest)) := hkb.cell 1
  have hlt0 : w.heap.size < (w.alloc (.cells #[.string (bstr x.key), .string (bstr x.digest)] 33)).heap.size := by simp
  clear h1 hab hkb
  go_enter Tryd.func23, Tryd.ntmps23
  go_wp2_with fail
  refine (refCheckLeaf_any x _ hx1 hx2).mono ?_
  rintro e w1 ⟨rfl, hb1⟩
  have HB1 := Lib.hid (ext_trans HAB.out hb1)
  have HS1 := Lib.hid (Rp.ext _ HS.out hb1)
  have hkb1 := HKB.out.same (same_below hb1) hlt0
  have j0 : _ = some (Value.string (bstr x.key)) := hkb1.cell 0
  have j1 : _ = some (Value.string (bstr x.digest)) := hkb1.cell 1
  have HK1 := Lib.hid hkb1
  have hwl : w.heap.size < w1.heap.size := by have := hb1.size; omega
  clear k0 k1 HS HAB HKB hb1 hkb1 hlt0
  by_cases hf : leafF x = 0
  · rw [hf]
    have HF := Lib.hid hf
    have hxl := leaf_len hf
    clear hf
    by_cases hbig : 30 < l.length
    · have HP := Lib.hid (ClimbTop.bad (w := w) (x := x) (l := l) (f := 2) (by rw [climbFault, if_neg (by rw [HF.out]; decide), if_pos hbig]) (by decide) HB1.out)
      have hbig' : (30 : Int) < (l.length : Int) := by omega
      go_wp2_with fail
      go_ret2
      exact HP.out
    have hbig' : ¬ (30 : Int) < (l.length : Int) := by omega
    have hlw1 : w.heap.size < w1.heap.size := hwl
    go_wp2_with fail
    go_loopw [22] (fun vi wr => ∃ k : Nat, k ≤ l.length ∧ vi = .int .i64 k ∧ Hid (∀ s ∈ l.take k, isDig s.digest = true) ∧ Hid (Below w1.heap.size w1 wr)) (fun vi _ => l.length - (intOf vi).toNat)
    case atStart => exact ⟨0, by omega, rfl, Lib.hid (fun s hs => by simp at hs), Below.refl _ _⟩
    case round =>
      obtain ⟨k, hk, rfl, HD, HB3⟩ := hrel
      by_cases hlt : k < l.length
      · clear j0 j1
        obtain ⟨ad, c', e1, _, c0, c1, hz⟩ := side_at (Rp.below _ HS1.out HB3.out) hlt
        cases e1
        have HBAD := Lib.hid (fun h => climbFault_bad (x := x) HF.out hbig hlt h)
        have HDS := Lib.hid (fun h => dig_step hlt HD.out h)
        generalize l[k] = s at *
        have HBA := Lib.hid (HB3.out.alloc HB3.out.size (.cells #[.string (bstr s.digest), .bool s.left] 39))
        have hkb := Blk.new wr 39 [.string (bstr s.digest), .bool s.left]
        have d0 : _ = some (Value.string (bstr s.digest)) := hkb.cell 0
        clear hkb
        go_wp2_with fail
        refine (refIsDigest_any s.digest _ hz).mono ?_
        rintro e w4 ⟨rfl, hb4⟩
        have HB4 := Lib.hid (HBA.out.trans (hb4.mono HBA.out.size))
        clear c0 c1 d0 hb4
        cases hdg : isDig s.digest with
        | false =>
          have HP := Lib.hid (ClimbTop.bad (w := w) (x := x) (l := l) (f := 3) (HBAD.out hdg) (by decide) (HB1.out.trans (HB4.out.mono HB1.out.size)))
          go_wp2_with fail
          go_ret2
          exact HP.out
        | true =>
          have HDD := Lib.hid (HDS.out hdg)
          clear hdg HDS HBAD HD
          go_wp2_with fail
          go_roundw
          case rel => exact ⟨k + 1, by omega, by go_num, HDD, HB4⟩
          case measure => simp [intOf]; omega
      · obtain rfl : k = l.length := by omega
        rw [List.take_length] at HD
        have hkb3 := HK1.out.same (same_below HB3.out) hlw1
        have m0 : _ = some (Value.string (bstr x.key)) := hkb3.cell 0
        have m1 : _ = some (Value.string (bstr x.digest)) := hkb3.cell 1
        clear hkb3 j0 j1
        go_wp2_with fail
        refine (refLeaf_any x _ hxl.1 hxl.2).mono ?_
        rintro e w2 ⟨rfl, hb2⟩
        have HB2 := Lib.hid ((HB1.out.trans (HB3.out.mono HB1.out.size)).trans (hb2.mono (by have := HB1.out.size; have := HB3.out.size; omega)))
        have HS2 := Lib.hid (Rp.ext _ (Rp.ext _ HS1.out HB3.out) hb2)
        clear m0 m1 hb2 HS1 HB1 HB3 hxl
        go_wp2_with fail
        go_loopw [9, 35] (fun va vi wr => ∃ k : Nat, k ≤ l.length ∧ vi = .int .i64 k ∧ va = .string (bstr (climbOf (leafD x) (l.take k))) ∧ Hid (Below w2.heap.size w2 wr)) (fun _ vi _ => l.length - (intOf vi).toNat)
        case atStart => exact ⟨0, by omega, rfl, rfl, Below.refl _ _⟩
        case round =>
          clear hk hlt
          obtain ⟨k, hk, rfl, rfl, HB3⟩ := hrel
          by_cases hlt : k < l.length
          · obtain ⟨ad, c', e1, _, c0, c1, hz⟩ := side_at (Rp.below _ HS2.out HB3.out) hlt
            cases e1
            have HCT := Lib.hid (climb_take (leafD x) l k hlt)
            have hcl := climb_len (leafD x) (l.take k) (leafD_len x)
            have hsl := isDig_len (HD.out l[k] (List.getElem_mem hlt))
            generalize climbOf (leafD x) (l.take k) = d at *
            generalize l[k] = s at *
            have HB4 := Lib.hid (HB3.out.alloc HB3.out.size (.cells #[.string (bstr s.digest), .bool s.left] 39))
            have hkb := Blk.new wr 39 [.string (bstr s.digest), .bool s.left]
            have d0 : _ = some (Value.string (bstr s.digest)) := hkb.cell 0
            have d1 : _ = some (Value.bool s.left) := hkb.cell 1
            clear hkb
            cases hsf : s.left with
            | true =>
              rw [hsf] at d1 c1 HB4 d0
              go_wp2_with fail
              refine (refNode_any s.digest d _ (by omega) (by omega)).mono ?_
              rintro e w5 ⟨rfl, hb5⟩
              have HB5 := Lib.hid (HB4.out.trans (hb5.mono HB4.out.size))
              clear hb5 c0 c1 d0 d1
              go_wp2_with fail
              go_roundw
              case rel => exact ⟨k + 1, by omega, by go_num, by rw [HCT.out, climbS, if_pos hsf], HB5⟩
              case measure => simp [intOf]; omega
            | false =>
              rw [hsf] at d1 c1 HB4 d0
              go_wp2_with fail
              refine (refNode_any d s.digest _ (by omega) (by omega)).mono ?_
              rintro e w5 ⟨rfl, hb5⟩
              have HB5 := Lib.hid (HB4.out.trans (hb5.mono HB4.out.size))
              clear hb5 c0 c1 d0 d1
              go_wp2_with fail
              go_roundw
              case rel => exact ⟨k + 1, by omega, by go_num, by rw [HCT.out, climbS, if_neg (by rw [hsf]; decide)], HB5⟩
              case measure => simp [intOf]; omega
          · obtain rfl : k = l.length := by omega
            rw [List.take_length] at *
            have hcf := climbFault_ok (x := x) HF.out hbig HD.out
            have HP := Lib.hid (show ClimbTop x l w (.returned (.tuple #[.string (bstr (climbOf (leafD x) l)), .int .i64 0])) wr from ⟨by rw [climbTopL, if_pos hcf, hcf], HB2.out.trans (HB3.out.mono HB2.out.size)⟩)
            clear hcf HD
            go_wp2_with fail
            go_ret2
            exact HP.out
  · have HP := Lib.hid (ClimbTop.bad (w := w) (x := x) (l := l) (f := leafF x) (by rw [climbFault, if_pos hf]) hf HB1.out)
    generalize leafF x = f at *
    go_wp2_with fail
    go_ret2
    exact HP.out
end Go.Proofs.YtnnoolemmnailaaDoor
