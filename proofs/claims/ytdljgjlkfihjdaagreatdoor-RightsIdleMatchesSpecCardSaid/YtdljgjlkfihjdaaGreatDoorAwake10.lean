/-
  'awake' of the laws of chapter 10: it answers true.
-/
import Derived.Test.YtdljgjlkfihjdaaGreatDoorRgtC
import Derived.Deep.RegionHeld3
namespace Go.Proofs.YtdljgjlkfihjdaaGreatDoor
open Go.RowKit
set_option linter.unusedVariables false
set_option linter.unusedSimpArgs false

set_option maxRecDepth 100000 in
set_option maxHeartbeats 1000000 in
theorem teamsNil_any (w : World) : Calls Tryz.prog 20 #[.slice none 0 0] w fun e w' => e = .returned (.int .i64 0) ∧ Below w.heap.size w w' := by
  have HB := Lib.hid ((Below.refl w.heap.size w).alloc (Nat.le_refl _) (.cells #[.slice none 0 0] 22))
  have m0 : (w.alloc (.cells #[.slice none 0 0] 22)).cell? ⟨w.heap.size, 0, none⟩ = some (.slice none 0 0) := (Blk.new w 22 [.slice none 0 0]).cell 0
  go_enter Tryz.func20, Tryz.ntmps20
  go_wp2_with fail
  generalize w.alloc (.cells #[.slice none 0 0] 22) = wA at *
  go_loop [15] (fun i => i = .int .i64 0) (fun _ => 0)
  case atStart => exact rfl
  case round =>
    subst hrel
    go_wp2_with fail
    go_loop [65] (fun i => i = .int .i64 0) (fun _ => 0)
    case atStart => exact rfl
    case round =>
      subst hrel
      go_wp2_with fail
      go_loop [76] (fun i => i = .int .i64 0) (fun _ => 0)
      case atStart => exact rfl
      case round =>
        subst hrel
        go_wp2_with fail
        go_ret
        exact ⟨rfl, HB.out⟩
set_option maxRecDepth 100000 in
set_option maxHeartbeats 1000000 in
theorem listNil_any (f : Value) (w : World) : Calls Tryz.prog 21 #[.slice none 0 0, f] w fun e w' => e = .returned (.int .i64 0) ∧ Below w.heap.size w w' := by
  have HB := Lib.hid ((Below.refl w.heap.size w).alloc (Nat.le_refl _) (.map #[] 0))
  have hmm := @run_makeMap Tryz.prog
  go_enter Tryz.func21, Tryz.ntmps21
  go_wp2_with fail
  clear hmm
  generalize w.alloc (.map #[] 0) = wA at *
  go_loop [15] (fun i => i = .int .i64 0) (fun _ => 0)
  case atStart => exact rfl
  case round =>
    subst hrel
    go_wp2_with fail
    go_ret
    exact ⟨rfl, HB.out⟩
set_option maxRecDepth 100000 in
set_option maxHeartbeats 1000000 in
theorem rightsNil_any (w : World) : Calls Tryz.prog 10 #[.slice none 0 0, .slice none 0 0] w fun e w' => e = .returned (.int .i64 0) ∧ Below w.heap.size w w' := by
  have HB := Lib.hid ((Below.refl w.heap.size w).alloc (Nat.le_refl _) (.cells #[.slice none 0 0] 22))
  have m0 : (w.alloc (.cells #[.slice none 0 0] 22)).cell? ⟨w.heap.size, 0, none⟩ = some (.slice none 0 0) := (Blk.new w 22 [.slice none 0 0]).cell 0
  go_enter Tryz.func10, Tryz.ntmps10
  go_wp2_with fail
  generalize w.alloc (.cells #[.slice none 0 0] 22) = wA at *
  refine (teamsNil_any wA).mono ?_
  rintro e w1 ⟨rfl, hb1⟩
  have HB1 := Lib.hid (HB.out.trans (hb1.mono HB.out.size))
  clear hb1 m0
  go_wp2_with fail
  refine (listNil_any _ w1).mono ?_
  rintro e w2 ⟨rfl, hb2⟩
  have HB2 := Lib.hid (HB1.out.trans (hb2.mono HB1.out.size))
  clear hb2
  go_wp2_with fail
  go_ret
  exact ⟨rfl, HB2.out⟩
/-- The capture that 'awake' asks about. -/
theorem isPre_a : isPre [97] = true := by decide
set_option maxRecDepth 100000 in
set_option maxHeartbeats 1000000 in
theorem captureA_any (w : World) : Calls Tryz.prog 36 #[.agg #[.string ⟨#[97]⟩, .int .i64 0]] w fun e w' => e = .returned (.int .i64 0) ∧ Below w.heap.size w w' := by
  have HB := Lib.hid ((Below.refl w.heap.size w).alloc (Nat.le_refl _) (.cells #[.string ⟨#[97]⟩, .int .i64 0] 25))
  have hk := Blk.new w 25 [.string ⟨#[97]⟩, .int .i64 0]
  have m0 : (w.alloc (.cells #[.string ⟨#[97]⟩, .int .i64 0] 25)).cell? ⟨w.heap.size, 0, none⟩ = some (.string ⟨#[97]⟩) := hk.cell 0
  have m1 : (w.alloc (.cells #[.string ⟨#[97]⟩, .int .i64 0] 25)).cell? ⟨w.heap.size, 1, none⟩ = some (.int .i64 0) := hk.cell 1
  clear hk
  have he : (⟨#[97]⟩ : ByteArray).toList.isEmpty = false := by rw [ByteArray.toList_eq]; rfl
  go_enter Tryz.func36, Tryz.ntmps36
  go_wp2_with fail
  generalize w.alloc (.cells #[.string ⟨#[97]⟩, .int .i64 0] 25) = wA at *
  refine (isPre_any [97] _ (by decide)).mono ?_
  rintro e w1 ⟨rfl, rfl⟩
  rw [isPre_a]
  go_wp2_with fail
  refine (moment_any 0 _).mono ?_
  rintro e w1 ⟨rfl, rfl⟩
  rw [show withinB 0 0 253402300799 = true by decide]
  go_wp2_with fail
  go_ret
  exact ⟨rfl, HB.out⟩
set_option maxRecDepth 100000 in
set_option maxHeartbeats 1000000 in
theorem askedNil_any (w : World) : Calls Tryz.prog 16 #[.slice none 0 0, .slice none 0 0, .agg #[.string ⟨#[]⟩, .bool false], .agg #[.string ⟨#[97]⟩, .int .i64 0]] w fun e w' => e = .returned (.int .i64 0) ∧ Below w.heap.size w w' := by
  have hl1 := (Below.refl w.heap.size w).alloc (Nat.le_refl _) (.cells #[.string ⟨#[]⟩, .bool false] 46)
  have hl2 := (Below.refl (w.alloc (.cells #[.string ⟨#[]⟩, .bool false] 46)).heap.size _).alloc (Nat.le_refl _) (.cells #[.string ⟨#[97]⟩, .int .i64 0] 25)
  have HB := Lib.hid (hl1.trans (hl2.mono (by simp)))
  have hka : Blk ((w.alloc (.cells #[.string ⟨#[]⟩, .bool false] 46)).alloc (.cells #[.string ⟨#[97]⟩, .int .i64 0] 25)) w.heap.size 46 [.string ⟨#[]⟩, .bool false] := (Blk.new w 46 [.string ⟨#[]⟩, .bool false]).same (same_below hl2) (by simp)
  have hkb : Blk ((w.alloc (.cells #[.string ⟨#[]⟩, .bool false] 46)).alloc (.cells #[.string ⟨#[97]⟩, .int .i64 0] 25)) (w.heap.size + 1) 25 [.string ⟨#[97]⟩, .int .i64 0] := by
    have := Blk.new (w.alloc (.cells #[.string ⟨#[]⟩, .bool false] 46)) 25 [.string ⟨#[97]⟩, .int .i64 0]
    rwa [World.size_alloc] at this
  have HKA := Lib.hid hka
  have HKB := Lib.hid hkb
  have he : (⟨#[]⟩ : ByteArray).toList.isEmpty = true := by rw [ByteArray.toList_eq]; rfl
  clear hl1 hl2 hka hkb
  go_enter Tryz.func16, Tryz.ntmps16
  go_wp2_with fail
  refine (rightsNil_any _).mono ?_
  rintro e w1 ⟨rfl, hb⟩
  have HB1 := Lib.hid (HB.out.trans (hb.mono HB.out.size))
  have HKA1 := Lib.hid (HKA.out.same (same_below hb) HKA.out.lt)
  have HKB1 := Lib.hid (HKB.out.same (same_below hb) HKB.out.lt)
  clear hb HKA HKB
  have x0 : w1.cell? ⟨w.heap.size, 0, none⟩ = some (.string ⟨#[]⟩) := HKA1.out.cell 0
  have y0 : w1.cell? ⟨w.heap.size + 1, 0, none⟩ = some (.string ⟨#[97]⟩) := HKB1.out.cell 0
  have y1 : w1.cell? ⟨w.heap.size + 1, 1, none⟩ = some (.int .i64 0) := HKB1.out.cell 1
  go_wp2_with fail
  refine (captureA_any _).mono ?_
  rintro e w2 ⟨rfl, hb⟩
  have HB2 := Lib.hid (HB1.out.trans (hb.mono HB1.out.size))
  clear hb
  go_wp2_with fail
  go_ret
  exact ⟨rfl, HB2.out⟩
set_option maxRecDepth 100000 in
set_option maxHeartbeats 1000000 in
theorem rightOfNil_any (w : World) : Calls Tryz.prog 18 #[.slice none 0 0, .agg #[.string ⟨#[97]⟩, .int .i64 0], .int .i64 5] w fun e w' => e = .returned (.int .i64 (-1)) ∧ Below w.heap.size w w' := by
  have HB := Lib.hid ((Below.refl w.heap.size w).alloc (Nat.le_refl _) (.cells #[.string ⟨#[97]⟩, .int .i64 0] 25))
  go_enter Tryz.func18, Tryz.ntmps18
  go_wp2_with fail
  generalize w.alloc (.cells #[.string ⟨#[97]⟩, .int .i64 0] 25) = wA at *
  go_loop [7, 12] (fun b i => b = .int .i64 (-1) ∧ i = .int .i64 0) (fun _ _ => 0)
  case atStart => exact ⟨rfl, rfl⟩
  case round =>
    obtain ⟨rfl, rfl⟩ := hrel
    go_wp2_with fail
    go_ret
    exact ⟨rfl, HB.out⟩
set_option maxRecDepth 100000 in
set_option maxHeartbeats 1000000 in
theorem mayNil_any (w : World) : Calls Tryz.prog 34 #[.agg #[.bool false, .slice none 0 0], .slice none 0 0, .agg #[.string ⟨#[97]⟩, .int .i64 0], .int .i64 5] w fun e w' => e = .returned (.bool true) ∧ Below w.heap.size w w' := by
  have hl1 := (Below.refl w.heap.size w).alloc (Nat.le_refl _) (.cells #[.bool false, .slice none 0 0] 63)
  have hl2 := (Below.refl (w.alloc (.cells #[.bool false, .slice none 0 0] 63)).heap.size _).alloc (Nat.le_refl _) (.cells #[.string ⟨#[97]⟩, .int .i64 0] 25)
  have HB := Lib.hid (hl1.trans (hl2.mono (by simp)))
  have hkb : Blk ((w.alloc (.cells #[.bool false, .slice none 0 0] 63)).alloc (.cells #[.string ⟨#[97]⟩, .int .i64 0] 25)) (w.heap.size + 1) 25 [.string ⟨#[97]⟩, .int .i64 0] := by
    have := Blk.new (w.alloc (.cells #[.bool false, .slice none 0 0] 63)) 25 [.string ⟨#[97]⟩, .int .i64 0]
    rwa [World.size_alloc] at this
  have y0 := hkb.cell 0
  have y1 := hkb.cell 1
  change World.cell? _ _ = some (Value.string ⟨#[97]⟩) at y0
  change World.cell? _ _ = some (Value.int .i64 0) at y1
  clear hl1 hl2 hkb
  go_enter Tryz.func34, Tryz.ntmps34
  go_wp2_with fail
  refine (rightOfNil_any _).mono ?_
  rintro e w1 ⟨rfl, hb⟩
  have HB1 := Lib.hid (HB.out.trans (hb.mono HB.out.size))
  clear hb y0 y1
  go_wp2_with fail
  go_ret
  exact ⟨rfl, HB1.out⟩
-- PART 2
set_option maxRecDepth 100000 in
set_option maxHeartbeats 1000000 in
theorem eyeNil_any (w : World) : Calls Tryz.prog 33 #[.slice none 0 0, .agg #[.string ⟨#[]⟩, .bool false]] w fun e w' => e = .returned (.agg #[.bool false, .slice none 0 0]) ∧ Below w.heap.size w w' := by
  have hl1 := (Below.refl w.heap.size w).alloc (Nat.le_refl _) (.cells #[.string ⟨#[]⟩, .bool false] 46)
  have hl2 := (Below.refl (w.alloc (.cells #[.string ⟨#[]⟩, .bool false] 46)).heap.size _).alloc (Nat.le_refl _) (.cells #[.bool false, .slice none 0 0] 63)
  have hl3 := (Below.refl ((w.alloc (.cells #[.string ⟨#[]⟩, .bool false] 46)).alloc (.cells #[.bool false, .slice none 0 0] 63)).heap.size _).alloc (Nat.le_refl _) (.cells #[.bool false, .slice none 0 0] 63)
  have HB := Lib.hid ((hl1.trans (hl2.mono (by simp))).trans (hl3.mono (by simp; omega)))
  have hk0 : Blk ((w.alloc (.cells #[.string ⟨#[]⟩, .bool false] 46)).alloc (.cells #[.bool false, .slice none 0 0] 63)) w.heap.size 46 [.string ⟨#[]⟩, .bool false] := (Blk.new w 46 [.string ⟨#[]⟩, .bool false]).same (same_below hl2) (by simp)
  have hk1 : Blk ((w.alloc (.cells #[.string ⟨#[]⟩, .bool false] 46)).alloc (.cells #[.bool false, .slice none 0 0] 63)) (w.heap.size + 1) 63 [.bool false, .slice none 0 0] := by
    have := Blk.new (w.alloc (.cells #[.string ⟨#[]⟩, .bool false] 46)) 63 [.bool false, .slice none 0 0]
    rwa [World.size_alloc] at this
  have HK1 := Lib.hid (hk1.same (same_below hl3) (by simp))
  have HK2 : Hid (Blk (((w.alloc (.cells #[.string ⟨#[]⟩, .bool false] 46)).alloc (.cells #[.bool false, .slice none 0 0] 63)).alloc (.cells #[.bool false, .slice none 0 0] 63)) (w.heap.size + 1 + 1) 63 [.bool false, .slice none 0 0]) := Lib.hid (by
    have := Blk.new ((w.alloc (.cells #[.string ⟨#[]⟩, .bool false] 46)).alloc (.cells #[.bool false, .slice none 0 0] 63)) 63 [.bool false, .slice none 0 0]
    rwa [World.size_alloc, World.size_alloc] at this)
  have v1 : ((w.alloc (.cells #[.string ⟨#[]⟩, .bool false] 46)).alloc (.cells #[.bool false, .slice none 0 0] 63)).cell? ⟨w.heap.size, 1, none⟩ = some (.bool false) := hk0.cell 1
  clear hl1 hl2 hl3 hk0 hk1
  go_enter Tryz.func33, Tryz.ntmps33
  go_wp2_with fail
  generalize ((w.alloc (.cells #[.string ⟨#[]⟩, .bool false] 46)).alloc (.cells #[.bool false, .slice none 0 0] 63)).alloc (.cells #[.bool false, .slice none 0 0] 63) = wA at *
  go_loop [13] (fun i => i = .int .i64 0) (fun _ => 0)
  case atStart => exact rfl
  case round =>
    subst hrel
    have e0 : wA.cell? ⟨w.heap.size + 1 + 1, 0, none⟩ = some (.bool false) := HK2.out.cell 0
    have e1 : wA.cell? ⟨w.heap.size + 1 + 1, 1, none⟩ = some (.slice none 0 0) := HK2.out.cell 1
    have r0 : wA.cell? ⟨w.heap.size + 1, 0, none⟩ = some (.bool false) := HK1.out.cell 0
    have r1 : wA.cell? ⟨w.heap.size + 1, 1, none⟩ = some (.slice none 0 0) := HK1.out.cell 1
    have z0 := HK1.out.frozen 0
    have z1 := HK1.out.frozen 1
    have HS := Lib.hid ((HK1.out.set_ 0 (.bool false)).set_ 1 (.slice none 0 0))
    have HBS := Lib.hid ((HB.out.setCell (p := ⟨w.heap.size + 1, 0, none⟩) (by show w.heap.size ≤ w.heap.size + 1; omega) (.bool false)).setCell (p := ⟨w.heap.size + 1, 1, none⟩) (by show w.heap.size ≤ w.heap.size + 1; omega) (.slice none 0 0))
    go_wp2_with fail
    have u0 := HS.out.cell 0
    have u1 := HS.out.cell 1
    simp only [List.set_cons_zero, List.set_cons_succ, List.getElem?_cons_zero, List.getElem?_cons_succ] at u0 u1
    exact bodyPost_ret (v := .agg #[.bool false, .slice none 0 0]) (by simp [results, Tryz.results33, go_sem, u0, u1]) rfl ⟨rfl, HBS.out⟩
set_option maxRecDepth 100000 in
set_option maxHeartbeats 1000000 in
theorem mayA_any (w : World) : Calls Tryz.prog 15 #[.slice none 0 0, .slice none 0 0, .agg #[.string ⟨#[]⟩, .bool false], .agg #[.string ⟨#[97]⟩, .int .i64 0], .int .i64 5] w fun e w' => e = .returned (.tuple #[.bool true, .int .i64 0]) ∧ Below w.heap.size w w' := by
  have hl1 := (Below.refl w.heap.size w).alloc (Nat.le_refl _) (.cells #[.string ⟨#[]⟩, .bool false] 46)
  have hl2 := (Below.refl (w.alloc (.cells #[.string ⟨#[]⟩, .bool false] 46)).heap.size _).alloc (Nat.le_refl _) (.cells #[.string ⟨#[97]⟩, .int .i64 0] 25)
  have HB := Lib.hid (hl1.trans (hl2.mono (by simp)))
  have hka : Blk ((w.alloc (.cells #[.string ⟨#[]⟩, .bool false] 46)).alloc (.cells #[.string ⟨#[97]⟩, .int .i64 0] 25)) w.heap.size 46 [.string ⟨#[]⟩, .bool false] := (Blk.new w 46 [.string ⟨#[]⟩, .bool false]).same (same_below hl2) (by simp)
  have hkb : Blk ((w.alloc (.cells #[.string ⟨#[]⟩, .bool false] 46)).alloc (.cells #[.string ⟨#[97]⟩, .int .i64 0] 25)) (w.heap.size + 1) 25 [.string ⟨#[97]⟩, .int .i64 0] := by
    have := Blk.new (w.alloc (.cells #[.string ⟨#[]⟩, .bool false] 46)) 25 [.string ⟨#[97]⟩, .int .i64 0]
    rwa [World.size_alloc] at this
  have HKA := Lib.hid hka
  have HKB := Lib.hid hkb
  have x0 : ((w.alloc (.cells #[.string ⟨#[]⟩, .bool false] 46)).alloc (.cells #[.string ⟨#[97]⟩, .int .i64 0] 25)).cell? ⟨w.heap.size, 0, none⟩ = some (.string ⟨#[]⟩) := hka.cell 0
  have x1 : ((w.alloc (.cells #[.string ⟨#[]⟩, .bool false] 46)).alloc (.cells #[.string ⟨#[97]⟩, .int .i64 0] 25)).cell? ⟨w.heap.size, 1, none⟩ = some (.bool false) := hka.cell 1
  have y0 : ((w.alloc (.cells #[.string ⟨#[]⟩, .bool false] 46)).alloc (.cells #[.string ⟨#[97]⟩, .int .i64 0] 25)).cell? ⟨w.heap.size + 1, 0, none⟩ = some (.string ⟨#[97]⟩) := hkb.cell 0
  have y1 : ((w.alloc (.cells #[.string ⟨#[]⟩, .bool false] 46)).alloc (.cells #[.string ⟨#[97]⟩, .int .i64 0] 25)).cell? ⟨w.heap.size + 1, 1, none⟩ = some (.int .i64 0) := hkb.cell 1
  clear hl1 hl2 hka hkb
  go_enter Tryz.func15, Tryz.ntmps15
  go_wp2_with fail
  refine (askedNil_any _).mono ?_
  rintro e w4 ⟨rfl, hb⟩
  have HB4 := Lib.hid (HB.out.trans (hb.mono HB.out.size))
  have HKA4 := Lib.hid (HKA.out.same (same_below hb) HKA.out.lt)
  have HKB4 := Lib.hid (HKB.out.same (same_below hb) HKB.out.lt)
  clear hb HKA HKB HB x0 x1 y0 y1
  obtain ⟨bv, hbv⟩ : ∃ bv, w.heap.size = bv := ⟨_, rfl⟩
  obtain ⟨bc, hbc⟩ : ∃ bc, bv + 1 = bc := ⟨_, rfl⟩
  rw [hbv] at HKA4 HKB4 ⊢
  rw [hbc] at HKB4 ⊢
  rw [← hbv]
  rw [hbv]
  go_wp2_with fail
  refine (moment_any 5 _).mono ?_
  rintro e w5 ⟨rfl, rfl⟩
  rw [show withinB 5 0 253402300799 = true by decide]
  go_wp2_with fail
  have KPP : Hid (∀ w', Below w5.heap.size w5 w' → (w'.cell? ⟨bv, 0, none⟩ = some (.string ⟨#[]⟩) ∧ w'.cell? ⟨bv, 1, none⟩ = some (.bool false) ∧ w'.cell? ⟨bc, 0, none⟩ = some (.string ⟨#[97]⟩) ∧ w'.cell? ⟨bc, 1, none⟩ = some (.int .i64 0))) := Lib.hid (fun w' hg => by
    have h1 := HKA4.out.same (same_below hg) HKA4.out.lt
    have h2 := HKB4.out.same (same_below hg) HKB4.out.lt
    exact ⟨h1.cell 0, h1.cell 1, h2.cell 0, h2.cell 1⟩)
  refine wp_region_held_drew (S := fun w' => w'.cell? ⟨bv, 0, none⟩ = some (.string ⟨#[]⟩) ∧ w'.cell? ⟨bv, 1, none⟩ = some (.bool false) ∧ w'.cell? ⟨bc, 0, none⟩ = some (.string ⟨#[97]⟩) ∧ w'.cell? ⟨bc, 1, none⟩ = some (.int .i64 0)) (by kernel_rfl) (KPP.out _ (Below.drew (Below.refl _ _))) (fun hHeld => ?_)
  obtain ⟨wq, hwq⟩ : ∃ wq, wq = w5.drew := ⟨_, rfl⟩
  have HG0 : Hid (Below w5.heap.size w5 wq) := Lib.hid (by rw [hwq]; exact Below.drew (Below.refl _ _))
  rw [← hwq] at hHeld ⊢
  clear hwq
  refine wpAnyH_take (i := 0) (v := ?_) rfl (by kernel_rfl) (by kernel_rfl) (by kernel_rfl) (fun _ _ _ h => h) (Or.inl ⟨by rfl, ?_⟩) (by assumption) ?_
  rotate_left
  · (intro w hSw; (try dsimp only at hSw); go_simp; try with_reducible rfl)
  try simp only [List.getElem_toArray, List.getElem_cons_succ, List.getElem_cons_zero, Act.put, List.setIfInBounds_toArray, List.set_cons_zero, List.set_cons_succ]
  refine wpAnyH_take (i := 1) (v := ?_) rfl (by kernel_rfl) (by kernel_rfl) (by kernel_rfl) (fun _ _ _ h => h) (Or.inl ⟨by rfl, ?_⟩) (by assumption) ?_
  rotate_left
  · (intro w hSw; (try dsimp only at hSw); go_simp; try with_reducible rfl)
  try simp only [List.getElem_toArray, List.getElem_cons_succ, List.getElem_cons_zero, Act.put, List.setIfInBounds_toArray, List.set_cons_zero, List.set_cons_succ]
  refine wpAnyH_take (i := 3) (v := ?_) rfl (by kernel_rfl) (by kernel_rfl) (by kernel_rfl) (fun _ _ _ h => h) (Or.inl ⟨by rfl, ?_⟩) (by assumption) ?_
  rotate_left
  · (intro w hSw; (try dsimp only at hSw); go_simp; try with_reducible rfl)
  try simp only [List.getElem_toArray, List.getElem_cons_succ, List.getElem_cons_zero, Act.put, List.setIfInBounds_toArray, List.set_cons_zero, List.set_cons_succ]
  refine wpAnyH_take (i := 4) (v := ?_) rfl (by kernel_rfl) (by kernel_rfl) (by kernel_rfl) (fun _ _ _ h => h) (Or.inl ⟨by rfl, ?_⟩) (by assumption) ?_
  rotate_left
  · (intro w hSw; (try dsimp only at hSw); go_simp; try with_reducible rfl)
  try simp only [List.getElem_toArray, List.getElem_cons_succ, List.getElem_cons_zero, Act.put, List.setIfInBounds_toArray, List.set_cons_zero, List.set_cons_succ]
  refine wpAnyH_take (i := 5) (v := ?_) rfl (by kernel_rfl) (by kernel_rfl) (by kernel_rfl) (fun _ _ _ h => h) (Or.inl ⟨by rfl, ?_⟩) (by assumption) ?_
  rotate_left
  · (intro w hSw; (try dsimp only at hSw); go_simp; try with_reducible rfl)
  try simp only [List.getElem_toArray, List.getElem_cons_succ, List.getElem_cons_zero, Act.put, List.setIfInBounds_toArray, List.set_cons_zero, List.set_cons_succ]
  refine wpAnyH_ready (rs := [2]) (by kernel_rfl) (by simp) ?_
  refine AllReadyH.cons rfl (fun K hK => ?_) AllReadyH.nil
  rw [if_pos (by rfl)]
  simp only [List.getElem_toArray, List.getElem_cons_succ, List.getElem_cons_zero]
  go_simp
  go_at_call 33
  refine (eyeNil_any _).mono ?_
  rintro e w7 ⟨rfl, hw⟩
  have HG5 : Hid (Below w5.heap.size w5 w7) := Lib.hid (HG0.out.trans (hw.mono HG0.out.size))
  clear hw
  show K _ w7
  refine hK.out _ _ (KPP.out _ HG5.out) (fun hHeld => ?_)
  clear hK K
  try simp only [List.getElem_toArray, List.getElem_cons_succ, List.getElem_cons_zero, Act.put, List.setIfInBounds_toArray, List.set_cons_zero, List.set_cons_succ]
  refine wpAnyH_ready (rs := [6]) (by kernel_rfl) (by simp) ?_
  refine AllReadyH.cons rfl (fun K hK => ?_) AllReadyH.nil
  rw [if_pos (by rfl)]
  simp only [List.getElem_toArray, List.getElem_cons_succ, List.getElem_cons_zero]
  go_simp
  go_at_call 34
  refine (mayNil_any _).mono ?_
  rintro e w6 ⟨rfl, hw⟩
  have HG6 : Hid (Below w5.heap.size w5 w6) := Lib.hid (HG5.out.trans (hw.mono HG5.out.size))
  clear hw
  show K _ w6
  refine hK.out _ _ (KPP.out _ HG6.out) (fun hHeld => ?_)
  clear hK K
  try simp only [List.getElem_toArray, List.getElem_cons_succ, List.getElem_cons_zero, Act.put, List.setIfInBounds_toArray, List.set_cons_zero, List.set_cons_succ]
  refine wpAnyH_take (i := 7) (v := ?_) rfl (by kernel_rfl) (by kernel_rfl) (by kernel_rfl) (fun _ _ _ h => h) (Or.inl ⟨by rfl, ?_⟩) (by assumption) ?_
  rotate_left
  · (intro w hSw; (try dsimp only at hSw); go_simp; try with_reducible rfl)
  try simp only [List.getElem_toArray, List.getElem_cons_succ, List.getElem_cons_zero, Act.put, List.setIfInBounds_toArray, List.set_cons_zero, List.set_cons_succ]
  refine wpAnyH_take (i := 8) (v := ?_) rfl (by kernel_rfl) (by kernel_rfl) (by kernel_rfl) (fun _ _ _ h => h) (Or.inl ⟨by rfl, ?_⟩) (by assumption) ?_
  rotate_left
  · (intro w hSw; (try dsimp only at hSw); go_simp; try with_reducible rfl)
  try simp only [List.getElem_toArray, List.getElem_cons_succ, List.getElem_cons_zero, Act.put, List.setIfInBounds_toArray, List.set_cons_zero, List.set_cons_succ]
  refine wpAnyH_done (by kernel_rfl) ?_ _
  clear hHeld KPP
  go_wp2_with fail
  go_ret2
  exact ⟨rfl, HB4.out.trans (HG6.out.mono HB4.out.size)⟩
set_option maxRecDepth 100000 in
set_option maxHeartbeats 400000 in
theorem awake_any (w : World) : Calls Tryz.prog 7 #[] w fun e w' => e = .returned (.bool true) ∧ Below w.heap.size w w' := by
  go_enter Tryz.func7, Tryz.ntmps7
  go_wp2_with fail
  refine (mayA_any w).mono ?_
  rintro e w1 ⟨rfl, hb⟩
  have HB := Lib.hid hb
  clear hb
  go_wp2_with fail
  go_ret
  exact ⟨rfl, HB.out⟩
end Go.Proofs.YtdljgjlkfihjdaaGreatDoor
