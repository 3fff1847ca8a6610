/-
  'checkCosts' of both packages.
-/
import Derived.Test.YtnkdcmibafjplaaGreatDoorProg
import Derived.Test.YtnkdcmibafjplaaGreatDoorRepPlain
namespace Go.Proofs.YtnkdcmibafjplaaGreatDoor
open Go.RowKit
set_option linter.unusedVariables false
set_option linter.unusedSimpArgs false

set_option maxRecDepth 100000 in
set_option maxHeartbeats 4000000 in
theorem checkCosts_any (v0 : Value) (s : List Site) (v1 : Value) (l : List Cst) (w : World) (h0 : (Rp.sl siteRp).ok w (· < w.heap.size) [v0] s) (h1 : (Rp.sl cstRp).ok w (· < w.heap.size) [v1] l) :
    Calls Tryz.prog 32 #[v0, v1] w fun e w' => e = .returned (.int .i64 (costsFault s l)) ∧ Below w.heap.size w w' := by
  obtain ⟨A, c, rfl, hl, hc, _⟩ := Rp.sl_open h1
  unfold maxLen at hc
  have HS1 := Lib.hid h0
  have HL1 := Lib.hid h1
  clear h0 h1
  go_enter Tryz.func32, Tryz.ntmps32
  by_cases h5 : 2500 < l.length
  · have HF : Hid (costsFault s l = 2) := Lib.hid (by rw [costsFault, if_pos h5])
    have h5' : (2500 : Int) < (l.length : Int) := by omega
    go_wp2_with fail
    go_ret
    exact ⟨by rw [HF.out]; rfl, Below.refl _ _⟩
  have h5' : ¬ (2500 : Int) < (l.length : Int) := by omega
  go_wp2_with fail
  go_loopw [12] (fun i wr => ∃ k : Nat, k ≤ l.length ∧ i = .int .i64 k ∧ Hid (∀ j, j < k → costF s l j = 0) ∧ Hid (Below w.heap.size w wr)) (fun i _ => l.length - (intOf i).toNat)
  case atStart => exact ⟨0, by omega, rfl, (fun j hj => absurd hj (by omega)), Below.refl _ _⟩
  case round =>
    obtain ⟨k, hk, rfl, HS, HB⟩ := hrel
    by_cases hlt : k < l.length
    · obtain ⟨ad, c', e1, hadb, c0, c1, c2, hz1, hz2, hz3⟩ := cst_at (Rp.below _ HL1.out HB.out) hlt
      cases e1
      have F1 := Lib.hid (fun h => costsFault_at (s := s) h5 hlt HS.out (costF_1 hlt h) (by decide))
      have F2 := Lib.hid (fun h h2 => costsFault_at (s := s) h5 hlt HS.out (costF_2 hlt h h2) (by decide))
      have F3 := Lib.hid (fun h h2 h3 => costsFault_at (s := s) h5 hlt HS.out (costF_3 hlt h h2 h3) (by decide))
      have G3 := Lib.hid (fun h h2 h3 h4 => costsFault_at (s := s) h5 hlt HS.out (costF_4 hlt h h2 h3 h4) (by decide))
      have G4 := Lib.hid (fun h h2 h3 h4 h5' h6 => costsFault_at (s := s) h5 hlt HS.out (costF_5 hlt h h2 h3 h4 h5' h6) (by decide))
      have G5 := Lib.hid (fun h h2 h3 h4 h5' => firstF_step HS.out (costF_6 (s := s) hlt h h2 h3 h4 h5'))
      clear hadb
      generalize hx : l[k] = x at *
      clear hx
      have HB4 := Lib.hid (HB.out.alloc HB.out.size (.cells #[.string (bstr x.frm), .string (bstr x.to), .int .i64 x.cost] 49))
      have hkb := Blk.new wr 49 [.string (bstr x.frm), .string (bstr x.to), .int .i64 x.cost]
      have d0 : _ = some (Value.string (bstr x.frm)) := hkb.cell 0
      have d1 : _ = some (Value.string (bstr x.to)) := hkb.cell 1
      have d2 : _ = some (Value.int .i64 x.cost) := hkb.cell 2
      have lt4 : wr.heap.size < (wr.alloc (.cells #[.string (bstr x.frm), .string (bstr x.to), .int .i64 x.cost] 49)).heap.size := by simp
      clear hkb
      go_wp2_with fail
      refine (siteAt_any v0 s x.frm _ (Rp.ext _ HS1.out HB4.out)).mono ?_
      rintro e w5 ⟨rfl, hb5⟩
      have HB5 := Lib.hid (HB4.out.trans (hb5.mono HB4.out.size))
      have lt5 : wr.heap.size < w5.heap.size := by have := hb5.size; omega
      have d0 : w5.cell? ⟨wr.heap.size, 0, none⟩ = some (.string (bstr x.frm)) := (hb5.cell lt4).trans d0
      have d1 : w5.cell? ⟨wr.heap.size, 1, none⟩ = some (.string (bstr x.to)) := (hb5.cell lt4).trans d1
      have d2 : w5.cell? ⟨wr.heap.size, 2, none⟩ = some (.int .i64 x.cost) := (hb5.cell lt4).trans d2
      clear hb5
      by_cases hsi : siteIdx s x.frm < 0
      · have HF := Lib.hid (F1.out (by omega))
        clear F1 F2 F3 G3 G4 G5
        generalize siteIdx s x.frm = si at *
        go_wp2_with fail
        go_ret
        exact ⟨by rw [HF.out]; rfl, HB5.out⟩
      have F2' := F2.out (by omega)
      have F3' := F3.out (by omega)
      have G3' := G3.out (by omega)
      have G4' := G4.out (by omega)
      have G5' := G5.out (by omega)
      clear F2 F3 G3 G4 G5
      have F2 := Lib.hid F2'
      have F3 := Lib.hid F3'
      have G3 := Lib.hid G3'
      have G4 := Lib.hid G4'
      have G5 := Lib.hid G5'
      clear F2' F3' G3' G4' G5'
      clear F1
      generalize siteIdx s x.frm = si at *
      go_wp2_with fail
      refine (siteAt_any v0 s x.to _ (Rp.ext _ HS1.out HB5.out)).mono ?_
      rintro e w6 ⟨rfl, hb6⟩
      have HB6 := Lib.hid (HB5.out.trans (hb6.mono HB5.out.size))
      have lt6 : wr.heap.size < w6.heap.size := by have := hb6.size; omega
      have d0 : w6.cell? ⟨wr.heap.size, 0, none⟩ = some (.string (bstr x.frm)) := (hb6.cell lt5).trans d0
      have d1 : w6.cell? ⟨wr.heap.size, 1, none⟩ = some (.string (bstr x.to)) := (hb6.cell lt5).trans d1
      have d2 : w6.cell? ⟨wr.heap.size, 2, none⟩ = some (.int .i64 x.cost) := (hb6.cell lt5).trans d2
      clear hb6
      by_cases hsj : siteIdx s x.to < 0
      · have HF := Lib.hid (F2.out (by omega))
        clear F2 F3 G3 G4 G5
        generalize siteIdx s x.to = sj at *
        go_wp2_with fail
        go_ret
        exact ⟨by rw [HF.out]; rfl, HB6.out⟩
      have F3' := F3.out (by omega)
      have G3' := G3.out (by omega)
      have G4' := G4.out (by omega)
      have G5' := G5.out (by omega)
      clear F3 G3 G4 G5
      have F3 := Lib.hid F3'
      have G3 := Lib.hid G3'
      have G4 := Lib.hid G4'
      have G5 := Lib.hid G5'
      clear F3' G3' G4' G5'
      clear F2
      generalize siteIdx s x.to = sj at *
      by_cases hft : x.frm = x.to
      · have HF := Lib.hid (F3.out hft)
        have bft : ((bstr x.frm).toList == (bstr x.to).toList) = true := str_beq (by rw [hft])
        clear hft F3 G3 G4 G5
        go_wp2_with fail
        go_ret
        exact ⟨by rw [HF.out]; rfl, HB6.out⟩
      have bft : ((bstr x.frm).toList == (bstr x.to).toList) = false := str_bne (fun e => hft (bstr_inj e))
      have G3' := G3.out hft
      have G4' := G4.out hft
      have G5' := G5.out hft
      clear G3 G4 G5
      have G3 := Lib.hid G3'
      have G4 := Lib.hid G4'
      have G5 := Lib.hid G5'
      clear G3' G4' G5'
      clear F3 hft
      go_wp2_with fail
      refine (cwithin_any x.cost 0 1000000 _).mono ?_
      rintro e w7 ⟨rfl, rfl⟩
      cases hwi : withinB x.cost 0 1000000 with
      | false =>
        have HF := Lib.hid (G3.out hwi)
        clear hwi G3 G4 G5
        go_wp2_with fail
        go_ret
        exact ⟨by rw [HF.out]; rfl, HB6.out⟩
      | true =>
      have G4' := G4.out hwi
      have G5' := G5.out hwi
      clear G4 G5
      have G4 := Lib.hid G4'
      have G5 := Lib.hid G5'
      clear G4' G5'
      clear hwi G3
      by_cases hk0 : k = 0
      · have F5 := Lib.hid (G5.out (fun h => absurd h.1 (by omega)))
        have hk0' : ¬ (0 : Int) < (k : Int) := by omega
        have hk0n : ¬ 0 < k := by omega
        clear G4 G5 hk0
        go_wp2_with fail
        go_quiet (fail)
        go_wp2_with fail
        go_roundw
        case rel => exact ⟨k + 1, by omega, by go_num, F5.out, below_drewN HB6.out nq⟩
        case measure => simp [intOf]; omega
      · obtain ⟨m, rfl⟩ : ∃ m, k = m + 1 := ⟨k - 1, by omega⟩
        have hm : m < l.length := by omega
        obtain ⟨ad', c'', e1, hadb, p0, p1, p2, hy1, hy2, hy3⟩ := cst_at (Rp.below _ HL1.out HB6.out) hm
        cases e1
        have hpb : (ad.add (m * 3)).block < w6.heap.size := by rw [add_block]; have := HB6.out.size; have hadb' : ad.block < w.heap.size := hadb; omega
        simp only [Nat.add_sub_cancel] at G4 G5
        have F4' : costBad l[m] x = true → costsFault s l = 8 := fun h => G4.out (by omega) h
        have F5' : costBad l[m] x = false → ∀ j, j < m + 1 + 1 → costF s l j = 0 := fun h => G5.out (fun e => by rw [h] at e; exact absurd e.2 (by decide))
        clear hadb G4 G5
        generalize l[m] = y at *
        have F4 := Lib.hid F4'
        have E5 := Lib.hid F5'
        clear F4' F5'
        go_wp2_with fail
        have hk0' : (0 : Int) < (m : Int) + 1 := by omega
        have hkm : IntKind.i64.wrap ((m : Int) + 1 - 1) = m := by rw [Int.add_sub_cancel]; exact IntWalk.i64_in _ (by omega)
        have hkm2 : IntKind.i64.wrap (m : Int) = m := IntWalk.i64_in _ (by omega)
        have hm0 : (0 : Int) ≤ (m : Int) := by omega
        have hml : (m : Int) < (l.length : Int) := by omega
        go_region_held3 (fun w' => (w'.cell? (ad.add (m * 3)) = some (.string (bstr y.frm)) ∧ w'.cell? ⟨(ad.add (m * 3)).block, (ad.add (m * 3)).off + 1, none⟩ = some (.string (bstr y.to))) ∧ (w'.cell? ⟨wr.heap.size, 0, none⟩ = some (.string (bstr x.frm)) ∧ w'.cell? ⟨wr.heap.size, 1, none⟩ = some (.string (bstr x.to)))) (first | exact ⟨⟨p0, p1⟩, d0, d1⟩ | (refine ⟨⟨?_, ?_⟩, ?_, ?_⟩ <;> repeat' (first | (with_reducible exact p0) | (with_reducible exact p1) | (with_reducible exact d0) | (with_reducible exact d1) | (with_reducible refine cell_alloc1 _ ?_) | (with_reducible refine cell_drew1 ?_)))) (first
          | (go_at_call 46; refine (strCmp_any _ _ _).mono ?_; rintro e w8 ⟨rfl, rfl⟩)
          | (go_at_call 70; with_reducible refine (or2_any _ _ _ _ (by repeat' (first | (with_reducible refine cell_drew1 ?_) | (with_reducible exact lit2_0 rfl) | (refine lit2_0 ?_; simp))) (by repeat' (first | (with_reducible refine cell_drew1 ?_) | (with_reducible exact lit2_1 rfl) | (refine lit2_1 ?_; simp)))).mono ?_; rintro e w9 ⟨rfl, rfl⟩))
        all_goals
          rw [costBad_cmp]
          clear p0 p1 d0 d1 d2 hk0' hkm hkm2 hm0 hml
          cases hs : costBad y x with
          | true =>
            have HF := Lib.hid (F4.out hs)
            clear hs
            go_wp2_with fail
            go_ret
            refine ⟨by rw [HF.out]; rfl, ?_⟩
            repeat' (first | (with_reducible exact HB6.out) | (with_reducible refine Below.drew ?_) | (with_reducible refine Below.alloc ?_ ?_ _) | (have := HB6.out.size; simp; omega))
          | false =>
          have F5 := Lib.hid (E5.out hs)
          clear hs F4 E5
          go_wp2_with fail
          go_roundw
          case rel =>
            refine ⟨m + 1 + 1, by omega, by go_num, F5.out, Lib.hid ?_⟩
            repeat' (first | (with_reducible exact HB6.out) | (with_reducible refine Below.drew ?_) | (with_reducible refine Below.alloc ?_ ?_ _) | (have := HB6.out.size; simp; omega))
          case measure => simp [intOf]; omega
    · obtain rfl : k = l.length := by omega
      have HF := Lib.hid (costsFault_ok h5 HS.out)
      go_wp2_with fail
      go_ret
      exact ⟨by rw [HF.out]; rfl, HB.out⟩
end Go.Proofs.YtnkdcmibafjplaaGreatDoor
