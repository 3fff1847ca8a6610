/-
  'checkFiles', 'checkEntries', 'CheckPackage' of the reference.
-/
import Derived.Test.YtgfacedfndcgdaaGreatDoorProg
import Derived.Test.YtgfacedfndcgdaaGreatDoorRefPath
import Derived.Test.YtgfacedfndcgdaaGreatDoorPack
import Derived.Deep.QuietTactic
import Derived.BigQuiet
namespace Go.Proofs.YtgfacedfndcgdaaGreatDoor
open Go.RowKit
set_option linter.unusedVariables false
set_option linter.unusedSimpArgs false

set_option maxRecDepth 100000 in
set_option maxHeartbeats 4000000 in
theorem refCheckEntries_any (v : Value) (l : List Ent) (w1 : World) (h : (Rp.sl entRp).ok w1 (· < w1.heap.size) [v] l) (hG : GInt w1) (hpl : ∀ f ∈ l, f.path.length ≤ 10000000) :
    Calls Tryz.prog 32 #[v] w1 fun e w' => e = .returned (.int .i64 (entsFault l)) ∧ Below w1.heap.size w1 w' := by
  obtain ⟨A, c, rfl, hl, hc, _⟩ := Rp.sl_open h
  unfold maxLen at hc
  have H1 := Lib.hid h
  have HG1 := Lib.hid hG
  have HPL := Lib.hid hpl
  have HB1 := Lib.hid (Below.refl w1.heap.size w1)
  clear h hG hpl
  by_cases h5 : 500 < l.length
  · have HF : Hid (entsFault l = 2) := Lib.hid (if_pos h5)
    have h5' : (500 : Int) < (l.length : Int) := by omega
    go_enter Tryz.func32, Tryz.ntmps32
    go_wp2_with fail
    go_ret
    exact ⟨by rw [HF.out]; rfl, HB1.out⟩
  have h5' : ¬ (500 : Int) < (l.length : Int) := by omega
  go_enter Tryz.func32, Tryz.ntmps32
  go_wp2_with fail
  go_loopw [10] (fun i wr => ∃ k : Nat, k ≤ l.length ∧ i = .int .i64 k ∧ Hid (∀ j, j < k → entF l j = 0) ∧ Hid (Below w1.heap.size w1 wr)) (fun i _ => l.length - (intOf i).toNat)
  case atStart => exact ⟨0, by omega, rfl, (fun j hj => absurd hj (by omega)), Below.refl _ _⟩
  case round =>
    obtain ⟨k, hk, rfl, HS, HB⟩ := hrel
    by_cases hlt : k < l.length
    · obtain ⟨ad, c', e1, hadb, c0, c1, c2, hz1, hz2⟩ := ent_at (Rp.below _ H1.out HB.out) hlt
      cases e1
      have F1 := Lib.hid (fun h => entsFault_at h5 hlt HS.out (entF_1 hlt h) (by decide))
      have F2 := Lib.hid (fun h h2 => entsFault_at h5 hlt HS.out (entF_2 hlt h h2) (by decide))
      have F3 := Lib.hid (fun h h2 h3 => entsFault_at h5 hlt HS.out (entF_3 hlt h h2 h3) (by decide))
      have F4 := Lib.hid (fun h h2 h3 h4 h5' => entsFault_at h5 hlt HS.out (entF_4 hlt h h2 h3 h4 h5') (by decide))
      have F5 := Lib.hid (fun h h2 h3 h4 => firstF_step HS.out (entF_5 hlt h h2 h3 h4))
      have hx7 := HPL.out _ (List.getElem_mem hlt)
      clear hadb
      generalize l[k] = x at *
      have HHB := Lib.hid (HB.out.alloc HB.out.size (.cells #[.string (bstr x.path), .int .i64 x.size, .string (bstr x.digest)] 36))
      have hkb := Blk.new wr 36 [.string (bstr x.path), .int .i64 x.size, .string (bstr x.digest)]
      have HKB := Lib.hid hkb
      have k0 : _ = some (Value.string (bstr x.path)) := hkb.cell 0
      have hlt1 : wr.heap.size < (wr.alloc (.cells #[.string (bstr x.path), .int .i64 x.size, .string (bstr x.digest)] 36)).heap.size := by simp
      have HGA := Lib.hid ((HG1.out.ext HB.out).ext ((Below.refl wr.heap.size wr).alloc (Nat.le_refl _) (.cells #[.string (bstr x.path), .int .i64 x.size, .string (bstr x.digest)] 36)))
      clear hkb
      go_wp2_with fail
      refine (refIsPath_any x.path _ HGA.out hx7).mono ?_
      rintro e w5 ⟨rfl, hb5⟩
      have HB5 := Lib.hid (HHB.out.trans (hb5.mono HHB.out.size))
      have hk5 := HKB.out.same (same_below hb5) hlt1
      have d1 : _ = some (Value.int .i64 x.size) := hk5.cell 1
      have d2 : _ = some (Value.string (bstr x.digest)) := hk5.cell 2
      have HK5 := Lib.hid hk5
      have hlt5 : wr.heap.size < w5.heap.size := by have := hb5.size; omega
      clear hb5 hk5 k0 HKB HHB HGA hlt1 c0 c1 c2
      cases hp : isPathB x.path with
      | false =>
        have HF := Lib.hid (F1.out hp)
        clear F1 F2 F3 F4 F5 hp
        go_wp2_with fail
        go_ret
        exact ⟨by rw [HF.out]; rfl, HB5.out⟩
      | true =>
      have HP := Lib.hid hp
      clear hp F1
      go_wp2_with fail
      refine (rwithin_any _ _ _ _).mono ?_
      rintro e w5' ⟨rfl, rfl⟩
      cases hwi : withinB x.size 0 100000 with
      | false =>
        have HF := Lib.hid (F2.out HP.out hwi)
        clear F2 F3 F4 F5 hwi
        go_wp2_with fail
        go_ret
        exact ⟨by rw [HF.out]; rfl, HB5.out⟩
      | true =>
      have HW := Lib.hid hwi
      clear hwi F2
      go_wp2_with fail
      refine (refIsDigest_any x.digest _ hz2).mono ?_
      rintro e w6 ⟨rfl, hb6⟩
      have HB6 := Lib.hid (HB5.out.trans (hb6.mono HB5.out.size))
      have hk6 := HK5.out.same (same_below hb6) hlt5
      have f0 : _ = some (Value.string (bstr x.path)) := hk6.cell 0
      clear hb6 hk6 HK5 HB5 d1 d2
      cases hdg : isDig x.digest with
      | false =>
        have HF := Lib.hid (F3.out HP.out HW.out hdg)
        clear F3 F4 F5 hdg
        go_wp2_with fail
        go_ret
        exact ⟨by rw [HF.out]; rfl, HB6.out⟩
      | true =>
      have HD := Lib.hid hdg
      clear hdg F3
      by_cases hk0 : k = 0
      · have F6 := Lib.hid (F5.out HP.out HW.out HD.out (fun h => absurd h.1 (by omega)))
        have hk0' : ¬ (0 : Int) < (k : Int) := by omega
        have hk0n : ¬ 0 < k := by omega
        clear F4 F5 hk0
        go_wp2_with fail
        go_quiet (fail)
        go_wp2_with fail
        go_roundw
        case rel => exact ⟨k + 1, by omega, by go_num, F6.out, below_drewN HB6.out nq⟩
        case measure => simp [intOf]; omega
      · obtain ⟨m, rfl⟩ : ∃ m, k = m + 1 := ⟨k - 1, by omega⟩
        have hm : m < l.length := by omega
        obtain ⟨ad', c2, e1, _, p0, _, _, hy1, _⟩ := ent_at (Rp.below _ H1.out HB6.out) hm
        cases e1
        simp only [Nat.add_sub_cancel] at F4 F5
        have F4' : sle x.path l[m].path = true → entsFault l = 8 := fun h => F4.out HP.out HW.out HD.out (by omega) h
        have F5' : sle x.path l[m].path = false → ∀ j, j < m + 1 + 1 → entF l j = 0 := fun h => F5.out HP.out HW.out HD.out (fun e => by rw [h] at e; exact absurd e.2 (by decide))
        clear F4 F5
        generalize l[m] = y at *
        have F4 := Lib.hid F4'
        have F5 := Lib.hid F5'
        clear F4' F5'
        go_wp2_with fail
        have hk0' : (0 : Int) < (m : Int) + 1 := by omega
        have hkm : IntKind.i64.wrap ((m : Int) + 1 - 1) = m := by rw [Int.add_sub_cancel]; exact IntWalk.i64_in _ (by omega)
        have hm0 : (0 : Int) ≤ (m : Int) := by omega
        have hml : (m : Int) < (l.length : Int) := by omega
        go_quiet (fail)
        rw [sle_eq]
        clear hk0' hkm hm0 hml p0 hk0
        cases hs : sle x.path y.path with
        | true =>
          have HF := Lib.hid (F4.out hs)
          have HBB := Lib.hid (below_drewN HB6.out nq)
          clear hs
          go_wp2_with fail
          go_ret
          exact ⟨by rw [HF.out]; rfl, HBB.out⟩
        | false =>
        have F6 := Lib.hid (F5.out hs)
        clear hs F4 F5
        go_wp2_with fail
        go_roundw
        case rel => exact ⟨m + 1 + 1, by omega, by go_num, F6.out, below_drewN HB6.out nq⟩
        case measure => simp [intOf]; omega
    · obtain rfl : k = l.length := by omega
      have HF := Lib.hid (entsFault_ok h5 HS.out)
      go_wp2_with fail
      go_ret
      exact ⟨by rw [HF.out]; rfl, HB.out⟩
set_option maxHeartbeats 1000000 in
theorem refCheckPackage_any (n : List UInt8) (v : Value) (l : List Ent) (w : World) (h : (Rp.sl entRp).ok w (· < w.heap.size) [v] l) (hG : GInt w) (hpl : ∀ f ∈ l, f.path.length ≤ 10000000) (hn : n.length ≤ 9223372036854775807) :
    Calls Tryz.prog 14 #[.agg #[.string (bstr n), v]] w fun e w' => e = .returned (.int .i64 (packFault n l)) ∧ Below w.heap.size w w' := by
  have hab := (Below.refl w.heap.size w).alloc (Nat.le_refl _) (.cells #[.string (bstr n), v] 24)
  have hkb := Blk.new w 24 [.string (bstr n), v]
  have H := Lib.hid (Rp.ext _ h hab)
  have HG := Lib.hid (hG.ext hab)
  have HAB := Lib.hid hab
  have HPL := Lib.hid hpl
  have k0 : _ = some (Value.string (bstr n)) := hkb.cell 0
  have k1 : _ = some v := hkb.cell 1
  clear h hG hab hkb hpl
  go_enter Tryz.func14, Tryz.ntmps14
  go_wp2_with fail
  refine (refIsName_any n _ hn).mono ?_
  rintro e w1 ⟨rfl, rfl⟩
  cases hnm : isNm n with
  | false =>
    have HF : Hid (packFault n l = 5) := Lib.hid (if_pos hnm)
    clear hnm
    go_wp2_with fail
    go_ret
    exact ⟨by rw [HF.out]; rfl, HAB.out⟩
  | true =>
  have HPF : Hid (packFault n l = entsFault l) := Lib.hid (if_neg (by rw [hnm]; decide))
  clear hnm
  go_wp2_with fail
  refine (refCheckEntries_any v l _ H.out HG.out HPL.out).mono ?_
  rintro e w2 ⟨rfl, hb2⟩
  have HB2 := Lib.hid (HAB.out.trans (hb2.mono HAB.out.size))
  clear hb2 k0 k1
  go_wp2_with fail
  go_ret
  exact ⟨by rw [HPF.out]; rfl, HB2.out⟩
end Go.Proofs.YtgfacedfndcgdaaGreatDoor
