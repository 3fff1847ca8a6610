/-
  'checkFiles' of care.
-/
import Derived.Test.YtnkdcmibafjplaaGreatDoorProg
import Derived.Test.YtnkdcmibafjplaaGreatDoorSplit
import Derived.Test.YtnkdcmibafjplaaGreatDoorFirstF
import Derived.Test.YtnkdcmibafjplaaGreatDoorRows11
import Derived.Deep.QuietTactic
import Derived.BigQuiet
namespace Go.Proofs.YtnkdcmibafjplaaGreatDoor
open Go.RowKit
set_option linter.unusedVariables false
set_option linter.unusedSimpArgs false

structure FileR where
  path : List UInt8
  bytes : List UInt8
deriving Inhabited
def fileRp : Rp FileR := (Rp.pair Rp.str (Rp.sl Rp.u8)).via fun r => (bstr r.path, r.bytes)
theorem file_open {w : World} {S : Nat → Prop} {us : List Value} {c : FileR} (h : fileRp.ok w S us c) : ∃ v, us = [.string (bstr c.path), v] ∧ c.path.length ≤ maxLen ∧ (Rp.sl Rp.u8).ok w S [v] c.bytes := by
  obtain ⟨_, _, rfl, ⟨rfl, h1⟩, h2⟩ := h
  obtain ⟨v, rfl⟩ := List.length_eq_one_iff.1 ((Rp.sl Rp.u8).len h2)
  exact ⟨v, rfl, h1, h2⟩
theorem file_at {w : World} {S : Nat → Prop} {v : Value} {l : List FileR} (h : (Rp.sl fileRp).ok w S [v] l) {k : Nat} (hk : k < l.length) :
    ∃ ad c v1, v = .slice (some ad) l.length c ∧ S ad.block ∧ w.cell? (ad.add (k * 2)) = some (.string (bstr l[k].path)) ∧ w.cell? ⟨(ad.add (k * 2)).block, (ad.add (k * 2)).off + 1, none⟩ = some v1 ∧ l[k].path.length ≤ 9223372036854775807 ∧ (Rp.sl Rp.u8).ok w S [v1] l[k].bytes := by
  obtain ⟨A, c, rfl, _⟩ := Rp.sl_open h
  obtain ⟨ad, us, rfl, _, hb, hu, hcell⟩ := Rp.sl_at h hk
  obtain ⟨v1, rfl, hz1, hv⟩ := file_open hu
  have c0 := hcell 0 _ rfl
  have c1 := hcell 1 _ rfl
  rw [add_fld _ _ _ (by omega)] at c1
  unfold maxLen at hz1
  exact ⟨ad, c, v1, rfl, hb, c0, c1, by omega, hv⟩
def fileF (l : List FileR) (i : Nat) : Int :=
  if isPathB (l.getD i default).path = false then 3 else if 100000 < (l.getD i default).bytes.length then 2
  else if 0 < i ∧ sle (l.getD i default).path (l.getD (i - 1) default).path = true then 8 else 0
def filesFault (l : List FileR) : Int := if 500 < l.length then 2 else firstF (fileF l) l.length
theorem fileF_1 {l : List FileR} {i : Nat} (hi : i < l.length) (h : isPathB l[i].path = false) : fileF l i = 3 := by
  rw [fileF, getD_at _ _ hi, if_pos h]
theorem fileF_2 {l : List FileR} {i : Nat} (hi : i < l.length) (h : isPathB l[i].path = true) (h2 : 100000 < l[i].bytes.length) : fileF l i = 2 := by
  rw [fileF, getD_at _ _ hi, if_neg (by rw [h]; decide), if_pos h2]
theorem fileF_3 {l : List FileR} {i : Nat} (hi : i < l.length) (h : isPathB l[i].path = true) (h2 : ¬ 100000 < l[i].bytes.length) (h3 : 0 < i) (h4 : sle l[i].path (l[i - 1]'(by omega)).path = true) : fileF l i = 8 := by
  rw [fileF, getD_at _ _ hi, getD_at _ _ (show i - 1 < l.length by omega), if_neg (by rw [h]; decide), if_neg h2, if_pos ⟨h3, h4⟩]
theorem fileF_4 {l : List FileR} {i : Nat} (hi : i < l.length) (h : isPathB l[i].path = true) (h2 : ¬ 100000 < l[i].bytes.length) (h3 : ¬ (0 < i ∧ sle l[i].path (l[i - 1]'(by omega)).path = true)) : fileF l i = 0 := by
  rw [fileF, getD_at _ _ hi, getD_at _ _ (show i - 1 < l.length by omega), if_neg (by rw [h]; decide), if_neg h2, if_neg h3]
theorem filesFault_at {l : List FileR} {i : Nat} (h3 : ¬ 500 < l.length) (hi : i < l.length) (hS : ∀ j, j < i → fileF l j = 0) {f : Int} (hf : fileF l i = f) (h0 : f ≠ 0) : filesFault l = f := by
  rw [filesFault, if_neg h3, firstF_at hi hS (by rw [hf]; exact h0), hf]
theorem filesFault_ok {l : List FileR} (h3 : ¬ 500 < l.length) (hS : ∀ j, j < l.length → fileF l j = 0) : filesFault l = 0 := by
  rw [filesFault, if_neg h3, firstF_ok hS]
set_option maxRecDepth 100000 in
set_option maxHeartbeats 2000000 in
theorem checkFiles_any (v : Value) (l : List FileR) (w : World) (h : (Rp.sl fileRp).ok w (· < w.heap.size) [v] l) (hG : GInt w) :
    Calls Tryz.prog 28 #[v] w fun e w' => e = .returned (.int .i64 (filesFault l)) ∧ Below w.heap.size w w' := by
  obtain ⟨A, c, rfl, hl, hc, _⟩ := Rp.sl_open h
  unfold maxLen at hc
  have H := Lib.hid h
  have HG := Lib.hid hG
  clear h hG
  by_cases h5 : 500 < l.length
  · have HF : Hid (filesFault l = 2) := Lib.hid (if_pos h5)
    have h5' : (500 : Int) < (l.length : Int) := by omega
    go_enter Tryz.func28, Tryz.ntmps28
    go_wp2_with fail
    go_ret
    exact ⟨by rw [HF.out]; rfl, Below.refl _ _⟩
  have h5' : ¬ (500 : Int) < (l.length : Int) := by omega
  go_enter Tryz.func28, Tryz.ntmps28
  go_wp2_with fail
  go_loopw [10] (fun i wr => ∃ k : Nat, k ≤ l.length ∧ i = .int .i64 k ∧ Hid (∀ j, j < k → fileF l j = 0) ∧ Hid (Below w.heap.size w wr)) (fun i _ => l.length - (intOf i).toNat)
  case atStart => exact ⟨0, by omega, rfl, (fun j hj => absurd hj (by omega)), Below.refl _ _⟩
  case round =>
    obtain ⟨k, hk, rfl, HS, HB⟩ := hrel
    by_cases hlt : k < l.length
    · obtain ⟨ad, c', v1, e1, hadb, c0, c1, hz1, hv1⟩ := file_at (Rp.below _ H.out HB.out) hlt
      cases e1
      obtain ⟨A1, cb, rfl, hcb, hcbm, _⟩ := Rp.sl_open hv1
      unfold maxLen at hcbm
      have F1 := Lib.hid (fun h => filesFault_at h5 hlt HS.out (fileF_1 hlt h) (by decide))
      have F2 := Lib.hid (fun h h2 => filesFault_at h5 hlt HS.out (fileF_2 hlt h h2) (by decide))
      have F3 := Lib.hid (fun h h2 h3 h4 => filesFault_at h5 hlt HS.out (fileF_3 hlt h h2 h3 h4) (by decide))
      have F4 := Lib.hid (fun h h2 h3 => firstF_step HS.out (fileF_4 hlt h h2 h3))
      clear hadb hv1
      generalize l[k] = x at *
      have HHB := Lib.hid (HB.out.alloc HB.out.size (.cells #[.string (bstr x.path), .slice A1 x.bytes.length cb] 52))
      have hkb := Blk.new wr 52 [.string (bstr x.path), .slice A1 x.bytes.length cb]
      have HKB := Lib.hid hkb
      have k0 : _ = some (Value.string (bstr x.path)) := hkb.cell 0
      have k1 : _ = some (Value.slice A1 x.bytes.length cb) := hkb.cell 1
      have hlt1 : wr.heap.size < (wr.alloc (.cells #[.string (bstr x.path), .slice A1 x.bytes.length cb] 52)).heap.size := by simp
      have HGA := Lib.hid ((HG.out.ext HB.out).ext ((Below.refl wr.heap.size wr).alloc (Nat.le_refl _) (.cells #[.string (bstr x.path), .slice A1 x.bytes.length cb] 52)))
      clear hkb
      go_wp2_with fail
      refine (isPath_any x.path _ HGA.out hz1).mono ?_
      rintro e w5 ⟨rfl, hb5⟩
      have HB5 := Lib.hid (HHB.out.trans (hb5.mono HHB.out.size))
      have hk5 := HKB.out.same (same_below hb5) hlt1
      have d0 : _ = some (Value.string (bstr x.path)) := hk5.cell 0
      have d1 : _ = some (Value.slice A1 x.bytes.length cb) := hk5.cell 1
      clear hb5 hk5 k0 k1 HKB HHB HGA hlt1 c0 c1
      cases hp : isPathB x.path with
      | false =>
        have HF := Lib.hid (F1.out hp)
        clear F1 F2 F3 F4 hp
        go_wp2_with fail
        go_ret
        exact ⟨by rw [HF.out]; rfl, HB5.out⟩
      | true =>
      have HP := Lib.hid hp
      clear hp F1
      by_cases hbig : 100000 < x.bytes.length
      · have HF := Lib.hid (F2.out HP.out hbig)
        have hbig' : (100000 : Int) < (x.bytes.length : Int) := by omega
        clear F2 F3 F4
        go_wp2_with fail
        go_ret
        exact ⟨by rw [HF.out]; rfl, HB5.out⟩
      have hbig' : ¬ (100000 : Int) < (x.bytes.length : Int) := by omega
      by_cases hk0 : k = 0
      · have F5 := Lib.hid (F4.out HP.out hbig (fun h => absurd h.1 (by omega)))
        have hk0' : ¬ (0 : Int) < (k : Int) := by omega
        have hk0n : ¬ 0 < k := by omega
        clear F2 F3 F4 hk0
        go_wp2_with fail
        go_quiet (fail)
        go_wp2_with fail
        go_roundw
        case rel => exact ⟨k + 1, by omega, by go_num, F5.out, below_drewN HB5.out nq⟩
        case measure => simp [intOf]; omega
      · obtain ⟨m, rfl⟩ : ∃ m, k = m + 1 := ⟨k - 1, by omega⟩
        have hm : m < l.length := by omega
        obtain ⟨ad', c2, v2, e1, _, p0, _, hy1, _⟩ := file_at (Rp.below _ H.out HB5.out) hm
        cases e1
        simp only [Nat.add_sub_cancel] at F3 F4
        have F3' : sle x.path l[m].path = true → filesFault l = 8 := fun h => F3.out HP.out hbig (by omega) h
        have F4' : sle x.path l[m].path = false → ∀ j, j < m + 1 + 1 → fileF l j = 0 := fun h => F4.out HP.out hbig (fun e => by rw [h] at e; exact absurd e.2 (by decide))
        clear F2 F3 F4
        generalize l[m] = y at *
        have F3 := Lib.hid F3'
        have F4 := Lib.hid F4'
        clear F3' F4'
        go_wp2_with fail
        have hk0' : (0 : Int) < (m : Int) + 1 := by omega
        have hkm : IntKind.i64.wrap ((m : Int) + 1 - 1) = m := by rw [Int.add_sub_cancel]; exact IntWalk.i64_in _ (by omega)
        have hm0 : (0 : Int) ≤ (m : Int) := by omega
        have hml : (m : Int) < (l.length : Int) := by omega
        go_quiet (fail)
        rw [sle_eq]
        clear hk0' hkm hm0 hml p0 hk0
        cases hs : sle x.path y.path with
        | true =>
          have HF := Lib.hid (F3.out hs)
          have HBB := Lib.hid (below_drewN HB5.out nq)
          clear hs
          go_wp2_with fail
          go_ret
          exact ⟨by rw [HF.out]; rfl, HBB.out⟩
        | false =>
        have F5 := Lib.hid (F4.out hs)
        clear hs F3 F4
        go_wp2_with fail
        go_roundw
        case rel => exact ⟨m + 1 + 1, by omega, by go_num, F5.out, below_drewN HB5.out nq⟩
        case measure => simp [intOf]; omega
    · obtain rfl : k = l.length := by omega
      have HF := Lib.hid (filesFault_ok h5 HS.out)
      go_wp2_with fail
      go_ret
      exact ⟨by rw [HF.out]; rfl, HB.out⟩
end Go.Proofs.YtnkdcmibafjplaaGreatDoor
