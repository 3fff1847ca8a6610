/-
  'CheckCopies' of both packages.
-/
import Derived.Test.YtnkdcmibafjplaaGreatDoorProg
import Derived.Test.YtnkdcmibafjplaaGreatDoorSiteAt
import Derived.Test.YtnkdcmibafjplaaGreatDoorHeld
namespace Go.Proofs.YtnkdcmibafjplaaGreatDoor
open Go.RowKit
set_option linter.unusedVariables false
set_option linter.unusedSimpArgs false

theorem scmp_cases : ∀ a b : List UInt8, (scmp a b = -1 ∧ Op.bytesLess a b = true ∧ Op.bytesLess b a = false ∧ a ≠ b) ∨ (scmp a b = 0 ∧ Op.bytesLess a b = false ∧ Op.bytesLess b a = false ∧ a = b) ∨ (scmp a b = 1 ∧ Op.bytesLess a b = false ∧ Op.bytesLess b a = true ∧ a ≠ b)
  | [], [] => .inr (.inl ⟨rfl, rfl, rfl, rfl⟩)
  | [], _ :: _ => .inl ⟨rfl, rfl, rfl, by simp⟩
  | _ :: _, [] => .inr (.inr ⟨rfl, rfl, rfl, by simp⟩)
  | a :: x, b :: y => by
    have ih := scmp_cases x y
    unfold scmp at ih ⊢
    rw [Lib.compareBytes, Op.bytesLess, Op.bytesLess]
    by_cases h1 : a < b
    · have h2 : ¬ b < a := fun h => absurd (UInt8.lt_trans h1 h) (UInt8.lt_irrefl _)
      have h3 : a ≠ b := fun e => by subst e; exact UInt8.lt_irrefl _ h1
      left
      rw [if_pos h1]
      refine ⟨rfl, by simp [h1], ?_, by simp [h3]⟩
      simp [h2, Ne.symm h3]
    · by_cases h2 : b < a
      · have h3 : b ≠ a := fun e => by subst e; exact UInt8.lt_irrefl _ h2
        right; right
        rw [if_neg h1, if_pos h2]
        exact ⟨rfl, by simp [h1, Ne.symm h3], by simp [h2], by simp [Ne.symm h3]⟩
      · have h3 : a = b := UInt8.le_antisymm (UInt8.not_lt.1 h2) (UInt8.not_lt.1 h1)
        subst h3
        rw [if_neg h1, if_neg h1]
        simpa [h1] using ih
/-- A copy does not come behind the one before it. -/
def heldBad (y x : Held) : Bool := slt x.item y.item || (x.item == y.item && sle x.site y.site)
theorem heldBad_cmp (y x : Held) : decide (heldCmp y x ≥ 0) = heldBad y x := by
  unfold heldCmp or2 heldBad slt sle
  rcases scmp_cases y.item x.item with ⟨h1, h2, h3, h4⟩ | ⟨h1, h2, h3, h4⟩ | ⟨h1, h2, h3, h4⟩
  · rw [h1, if_neg (by decide), h3, beq_eq_false_iff_ne.2 (Ne.symm h4)]; rfl
  · rw [h1, if_pos rfl, h3, h4, beq_self_eq_true]
    rcases scmp_cases y.site x.site with ⟨g1, g2, g3, g4⟩ | ⟨g1, g2, g3, g4⟩ | ⟨g1, g2, g3, g4⟩
    · rw [g1, g3, beq_eq_false_iff_ne.2 (Ne.symm g4)]; rfl
    · rw [g1, g3, g4, beq_self_eq_true]; rfl
    · rw [g1, g3]; rfl
  · rw [h1, if_neg (by decide), h3]; rfl
def heldF (s : List Site) (l : List Held) (i : Nat) : Int :=
  if isNm (l.getD i default).item = false then 5 else if siteIdx s (l.getD i default).site < 0 then 5 else if isDig (l.getD i default).digest = false then 3
  else if 0 < i ∧ heldBad (l.getD (i - 1) default) (l.getD i default) = true then 8 else 0
def copiesFault (s : List Site) (l : List Held) : Int := if sitesFault s ≠ 0 then sitesFault s else if 3000 < l.length then 2 else firstF (heldF s l) l.length
section
variable {s : List Site} {l : List Held} {i : Nat}
theorem heldF_1 (hi : i < l.length) (h : isNm l[i].item = false) : heldF s l i = 5 := by rw [heldF, getD_at _ _ hi, if_pos h]
theorem heldF_2 (hi : i < l.length) (h : isNm l[i].item = true) (h2 : siteIdx s l[i].site < 0) : heldF s l i = 5 := by
  rw [heldF, getD_at _ _ hi, if_neg (by rw [h]; decide), if_pos h2]
theorem heldF_3 (hi : i < l.length) (h : isNm l[i].item = true) (h2 : ¬ siteIdx s l[i].site < 0) (h3 : isDig l[i].digest = false) : heldF s l i = 3 := by
  rw [heldF, getD_at _ _ hi, if_neg (by rw [h]; decide), if_neg h2, if_pos h3]
theorem heldF_4 (hi : i < l.length) (h : isNm l[i].item = true) (h2 : ¬ siteIdx s l[i].site < 0) (h3 : isDig l[i].digest = true) (h4 : 0 < i) (h5 : heldBad (l[i - 1]'(by omega)) l[i] = true) : heldF s l i = 8 := by
  rw [heldF, getD_at _ _ hi, getD_at _ _ (show i - 1 < l.length by omega), if_neg (by rw [h]; decide), if_neg h2, if_neg (by rw [h3]; decide), if_pos ⟨h4, h5⟩]
theorem heldF_5 (hi : i < l.length) (h : isNm l[i].item = true) (h2 : ¬ siteIdx s l[i].site < 0) (h3 : isDig l[i].digest = true) (h4 : ¬ (0 < i ∧ heldBad (l[i - 1]'(by omega)) l[i] = true)) : heldF s l i = 0 := by
  rw [heldF, getD_at _ _ hi, getD_at _ _ (show i - 1 < l.length by omega), if_neg (by rw [h]; decide), if_neg h2, if_neg (by rw [h3]; decide), if_neg h4]
theorem copiesFault_at (h0 : sitesFault s = 0) (h3 : ¬ 3000 < l.length) (hi : i < l.length) (hS : ∀ j, j < i → heldF s l j = 0) {f : Int} (hf : heldF s l i = f) (hn : f ≠ 0) : copiesFault s l = f := by
  rw [copiesFault, if_neg (by rw [h0]; decide), if_neg h3, firstF_at hi hS (by rw [hf]; exact hn), hf]
theorem copiesFault_ok (h0 : sitesFault s = 0) (h3 : ¬ 3000 < l.length) (hS : ∀ j, j < l.length → heldF s l j = 0) : copiesFault s l = 0 := by
  rw [copiesFault, if_neg (by rw [h0]; decide), if_neg h3, firstF_ok hS]
end
theorem compareHeldL_any (a b : Held) (w : World) :
    Calls Tryz.prog 41 #[.agg #[.string (bstr a.item), .string (bstr a.site), .string (bstr a.digest)], .agg #[.string (bstr b.item), .string (bstr b.site), .string (bstr b.digest)]] w fun e w' => e = .returned (.int .i64 (heldCmp a b)) ∧ Below w.heap.size w w' := compareHeld_any a b w
set_option maxRecDepth 100000 in
set_option maxHeartbeats 4000000 in
theorem checkCopies_any (v0 : Value) (s : List Site) (v1 : Value) (l : List Held) (w : World) (h0 : (Rp.sl siteRp).ok w (· < w.heap.size) [v0] s) (h1 : (Rp.sl heldRp).ok w (· < w.heap.size) [v1] l) :
    Calls Tryz.prog 31 #[v0, v1] w fun e w' => e = .returned (.int .i64 (copiesFault s l)) ∧ Below w.heap.size w w' := by
  obtain ⟨A, c, rfl, hl, hc, _⟩ := Rp.sl_open h1
  unfold maxLen at hc
  have H0 := Lib.hid h0
  have H1 := Lib.hid h1
  clear h0 h1
  go_enter Tryz.func31, Tryz.ntmps31
  go_wp2_with fail
  refine (checkSites_any v0 s w H0.out).mono ?_
  rintro e w1 ⟨rfl, hb1⟩
  have HB1 := Lib.hid hb1
  have HS1 := Lib.hid (Rp.ext _ H0.out hb1)
  have HL1 := Lib.hid (Rp.ext _ H1.out hb1)
  clear hb1 H0 H1
  by_cases hsf : sitesFault s = 0
  case neg =>
    have HF : Hid (copiesFault s l = sitesFault s) := Lib.hid (if_pos hsf)
    have hb : (sitesFault s != 0) = true := by simpa using hsf
    clear hsf
    go_wp2_with fail
    go_ret
    exact ⟨by rw [HF.out]; rfl, HB1.out⟩
  rw [hsf]
  by_cases h5 : 3000 < l.length
  · have HF : Hid (copiesFault s l = 2) := Lib.hid (by rw [copiesFault, if_neg (by rw [hsf]; decide), if_pos h5])
    have h5' : (3000 : Int) < (l.length : Int) := by omega
    clear hsf
    go_wp2_with fail
    go_ret
    exact ⟨by rw [HF.out]; rfl, HB1.out⟩
  have h5' : ¬ (3000 : Int) < (l.length : Int) := by omega
  have HSF := Lib.hid hsf
  clear hsf
  go_wp2_with fail
  go_loopw [18] (fun i wr => ∃ k : Nat, k ≤ l.length ∧ i = .int .i64 k ∧ Hid (∀ j, j < k → heldF s l j = 0) ∧ Hid (Below w1.heap.size w1 wr)) (fun i _ => l.length - (intOf i).toNat)
  case atStart => exact ⟨0, by omega, rfl, (fun j hj => absurd hj (by omega)), Below.refl _ _⟩
  case round =>
    obtain ⟨k, hk, rfl, HS, HB⟩ := hrel
    by_cases hlt : k < l.length
    · obtain ⟨ad, us, rfl, _, hadb, hu, hcell⟩ := Rp.sl_at (Rp.below _ HL1.out HB.out) hlt
      obtain ⟨rfl, hz1, hz2, hz3⟩ := held_open hu
      have c0 := hcell 0 _ rfl
      rw [Nat.add_zero] at c0
      change World.cell? _ (ad.add (k * 3)) = some (.string (bstr l[k].item)) at c0
      have c1 := hcell 1 _ rfl
      have c2 := hcell 2 _ rfl
      rw [add_fld _ _ _ (by omega)] at c1 c2
      change World.cell? _ ⟨(ad.add (k * 3)).block, (ad.add (k * 3)).off + 1, none⟩ = some (.string (bstr l[k].site)) at c1
      change World.cell? _ ⟨(ad.add (k * 3)).block, (ad.add (k * 3)).off + 2, none⟩ = some (.string (bstr l[k].digest)) at c2
      unfold maxLen at hz1 hz2 hz3
      have F1 := Lib.hid (fun h => copiesFault_at HSF.out h5 hlt HS.out (heldF_1 hlt h) (by decide))
      have F2 := Lib.hid (fun h h2 => copiesFault_at HSF.out h5 hlt HS.out (heldF_2 hlt h h2) (by decide))
      have F3 := Lib.hid (fun h h2 h3 => copiesFault_at HSF.out h5 hlt HS.out (heldF_3 hlt h h2 h3) (by decide))
      have G4 := Lib.hid (fun h h2 h3 h4 h5' => copiesFault_at HSF.out h5 hlt HS.out (heldF_4 hlt h h2 h3 h4 h5') (by decide))
      have G5 := Lib.hid (fun h h2 h3 h4 => firstF_step HS.out (heldF_5 (s := s) hlt h h2 h3 h4))
      clear hcell hu hadb
      generalize hx : l[k] = x at *
      clear hx
      have HB4 := Lib.hid (HB.out.alloc HB.out.size (.cells #[.string (bstr x.item), .string (bstr x.site), .string (bstr x.digest)] 54))
      have hkb := Blk.new wr 54 [.string (bstr x.item), .string (bstr x.site), .string (bstr x.digest)]
      have d0 : _ = some (Value.string (bstr x.item)) := hkb.cell 0
      have d1 : _ = some (Value.string (bstr x.site)) := hkb.cell 1
      have d2 : _ = some (Value.string (bstr x.digest)) := hkb.cell 2
      have lt4 : wr.heap.size < (wr.alloc (.cells #[.string (bstr x.item), .string (bstr x.site), .string (bstr x.digest)] 54)).heap.size := by simp
      clear hkb
      go_wp2_with fail
      refine (isName_any x.item _ hz1).mono ?_
      rintro e w5 ⟨rfl, hb5⟩
      have HB5 := Lib.hid (HB4.out.trans (hb5.mono HB4.out.size))
      have lt5 : wr.heap.size < w5.heap.size := by have := hb5.size; omega
      have d0 : w5.cell? ⟨wr.heap.size, 0, none⟩ = some (.string (bstr x.item)) := (hb5.cell lt4).trans d0
      have d1 : w5.cell? ⟨wr.heap.size, 1, none⟩ = some (.string (bstr x.site)) := (hb5.cell lt4).trans d1
      have d2 : w5.cell? ⟨wr.heap.size, 2, none⟩ = some (.string (bstr x.digest)) := (hb5.cell lt4).trans d2
      clear hb5
      cases hnm : isNm x.item with
      | false =>
        have HF := Lib.hid (F1.out hnm)
        have HBX := Lib.hid (HB1.out.trans (HB5.out.mono HB1.out.size))
        clear hnm F1 F2 F3 G4 G5
        go_wp2_with fail
        go_ret
        exact ⟨by rw [HF.out]; rfl, HBX.out⟩
      | true =>
      go_wp2_with fail
      refine (siteAt_any v0 s x.site _ (Rp.ext _ HS1.out HB5.out)).mono ?_
      rintro e w6 ⟨rfl, hb6⟩
      have HB6 := Lib.hid (HB5.out.trans (hb6.mono HB5.out.size))
      have lt6 : wr.heap.size < w6.heap.size := by have := hb6.size; omega
      have d0 : w6.cell? ⟨wr.heap.size, 0, none⟩ = some (.string (bstr x.item)) := (hb6.cell lt5).trans d0
      have d1 : w6.cell? ⟨wr.heap.size, 1, none⟩ = some (.string (bstr x.site)) := (hb6.cell lt5).trans d1
      have d2 : w6.cell? ⟨wr.heap.size, 2, none⟩ = some (.string (bstr x.digest)) := (hb6.cell lt5).trans d2
      clear hb6
      have F2' := F2.out hnm
      have F3' := F3.out hnm
      have G4' := G4.out hnm
      have G5' := G5.out hnm
      clear hnm F1 F2 F3 G4 G5
      generalize siteIdx s x.site = si at *
      by_cases hsi : si < 0
      · have HF := Lib.hid (F2' hsi)
        have HBX := Lib.hid (HB1.out.trans (HB6.out.mono HB1.out.size))
        clear F2' F3' G4' G5'
        go_wp2_with fail
        go_ret
        exact ⟨by rw [HF.out]; rfl, HBX.out⟩
      have F3 := Lib.hid (F3' (by omega))
      have G4 := Lib.hid (G4' (by omega))
      have G5 := Lib.hid (G5' (by omega))
      clear F2' F3' G4' G5'
      go_wp2_with fail
      refine (isDigest_any x.digest _ hz3).mono ?_
      rintro e w7 ⟨rfl, hb7⟩
      have HB7 := Lib.hid (HB6.out.trans (hb7.mono HB6.out.size))
      have lt7 : wr.heap.size < w7.heap.size := by have := hb7.size; omega
      have d0 : w7.cell? ⟨wr.heap.size, 0, none⟩ = some (.string (bstr x.item)) := (hb7.cell lt6).trans d0
      have d1 : w7.cell? ⟨wr.heap.size, 1, none⟩ = some (.string (bstr x.site)) := (hb7.cell lt6).trans d1
      have d2 : w7.cell? ⟨wr.heap.size, 2, none⟩ = some (.string (bstr x.digest)) := (hb7.cell lt6).trans d2
      clear hb7
      cases hdg : isDig x.digest with
      | false =>
        have HF := Lib.hid (F3.out hdg)
        have HBX := Lib.hid (HB1.out.trans (HB7.out.mono HB1.out.size))
        clear hdg F3 G4 G5
        go_wp2_with fail
        go_ret
        exact ⟨by rw [HF.out]; rfl, HBX.out⟩
      | true =>
      have HDG := Lib.hid hdg
      clear hdg F3
      by_cases hk0 : k = 0
      · have F5 := Lib.hid (G5.out HDG.out (fun h => absurd h.1 (by omega)))
        have hk0' : ¬ (0 : Int) < (k : Int) := by omega
        have hk0n : ¬ 0 < k := by omega
        clear G4 G5 hk0
        go_wp2_with fail
        go_quiet (fail)
        go_wp2_with fail
        go_roundw
        case rel => exact ⟨k + 1, by omega, by go_num, F5.out, below_drewN HB7.out nq⟩
        case measure => simp [intOf]; omega
      · obtain ⟨m, rfl⟩ : ∃ m, k = m + 1 := ⟨k - 1, by omega⟩
        have hm : m < l.length := by omega
        obtain ⟨ad', us, e1, _, hadb, hu, hcell⟩ := Rp.sl_at (Rp.below _ HL1.out HB7.out) hm
        injection e1 with e1
        subst e1
        have hpb : (ad.add (m * 3)).block < w7.heap.size := by rw [add_block]; have := HB7.out.size; have hadb' : ad.block < w1.heap.size := hadb; omega
        obtain ⟨rfl, hy1, hy2, hy3⟩ := held_open hu
        have p0 := hcell 0 _ rfl
        rw [Nat.add_zero] at p0
        change World.cell? _ (ad.add (m * 3)) = some (.string (bstr l[m].item)) at p0
        have p1 := hcell 1 _ rfl
        have p2 := hcell 2 _ rfl
        rw [add_fld _ _ _ (by omega)] at p1 p2
        change World.cell? _ ⟨(ad.add (m * 3)).block, (ad.add (m * 3)).off + 1, none⟩ = some (.string (bstr l[m].site)) at p1
        change World.cell? _ ⟨(ad.add (m * 3)).block, (ad.add (m * 3)).off + 2, none⟩ = some (.string (bstr l[m].digest)) at p2
        simp only [Nat.add_sub_cancel] at G4 G5
        have F4' : heldBad l[m] x = true → copiesFault s l = 8 := fun h => G4.out HDG.out (by omega) h
        have F5' : heldBad l[m] x = false → ∀ j, j < m + 1 + 1 → heldF s l j = 0 := fun h => G5.out HDG.out (fun e => by rw [h] at e; exact absurd e.2 (by decide))
        clear hcell hu hadb G4 G5
        generalize l[m] = y at *
        have F4 := Lib.hid F4'
        have E5 := Lib.hid F5'
        clear F4' F5'
        go_wp2_with fail
        have hk0' : (0 : Int) < (m : Int) + 1 := by omega
        have hkm : IntKind.i64.wrap ((m : Int) + 1 - 1) = m := by rw [Int.add_sub_cancel]; exact IntWalk.i64_in _ (by omega)
        have hkm2 : IntKind.i64.wrap (m : Int) = m := IntWalk.i64_in _ (by omega)
        have hm0 : (0 : Int) ≤ (m : Int) := by omega
        have hml : (m : Int) < (l.length : Int) := by omega
        go_region_held3 (fun w' => ((w'.cell? (ad.add (m * 3)) = some (.string (bstr y.item)) ∧ w'.cell? ⟨(ad.add (m * 3)).block, (ad.add (m * 3)).off + 1, none⟩ = some (.string (bstr y.site))) ∧ w'.cell? ⟨(ad.add (m * 3)).block, (ad.add (m * 3)).off + 2, none⟩ = some (.string (bstr y.digest))) ∧ (w'.cell? ⟨wr.heap.size, 0, none⟩ = some (.string (bstr x.item)) ∧ w'.cell? ⟨wr.heap.size, 1, none⟩ = some (.string (bstr x.site))) ∧ w'.cell? ⟨wr.heap.size, 2, none⟩ = some (.string (bstr x.digest))) (first | exact ⟨⟨⟨p0, p1⟩, p2⟩, ⟨d0, d1⟩, d2⟩ | (refine ⟨⟨⟨?_, ?_⟩, ?_⟩, ⟨?_, ?_⟩, ?_⟩ <;> repeat' (first | (with_reducible exact p0) | (with_reducible exact p1) | (with_reducible exact p2) | (with_reducible exact d0) | (with_reducible exact d1) | (with_reducible exact d2) | (with_reducible refine cell_alloc1 _ ?_) | (with_reducible refine cell_drew1 ?_)))) (first
          | (go_at_call 41; with_reducible refine (compareHeldL_any y x _).mono ?_; rintro e w8 ⟨rfl, hb8⟩; have HB8 : Hid (Below w1.heap.size w1 w8) := Lib.hid (Below.trans (by repeat' (first | (with_reducible exact HB7.out) | (with_reducible refine Below.drew ?_))) (hb8.mono (by have := HB7.out.size; simpa using this))); have p0 : w8.cell? (ad.add (m * 3)) = some (.string (bstr y.item)) := (hb8.cell (by simpa using hpb)).trans (by repeat' (first | (with_reducible exact p0) | (with_reducible refine cell_drew1 ?_))); have p1 : w8.cell? (⟨(ad.add (m * 3)).block, (ad.add (m * 3)).off + 1, none⟩) = some (.string (bstr y.site)) := (hb8.cell (by simpa using hpb)).trans (by repeat' (first | (with_reducible exact p1) | (with_reducible refine cell_drew1 ?_))); have p2 : w8.cell? (⟨(ad.add (m * 3)).block, (ad.add (m * 3)).off + 2, none⟩) = some (.string (bstr y.digest)) := (hb8.cell (by simpa using hpb)).trans (by repeat' (first | (with_reducible exact p2) | (with_reducible refine cell_drew1 ?_))); have d0 : w8.cell? (⟨wr.heap.size, 0, none⟩) = some (.string (bstr x.item)) := (hb8.cell (by simpa using lt7)).trans (by repeat' (first | (with_reducible exact d0) | (with_reducible refine cell_drew1 ?_))); have d1 : w8.cell? (⟨wr.heap.size, 1, none⟩) = some (.string (bstr x.site)) := (hb8.cell (by simpa using lt7)).trans (by repeat' (first | (with_reducible exact d1) | (with_reducible refine cell_drew1 ?_))); have d2 : w8.cell? (⟨wr.heap.size, 2, none⟩) = some (.string (bstr x.digest)) := (hb8.cell (by simpa using lt7)).trans (by repeat' (first | (with_reducible exact d2) | (with_reducible refine cell_drew1 ?_))); clear hb8))
        all_goals
          rw [heldBad_cmp]
          clear p0 p1 p2 d0 d1 d2 hk0' hkm hkm2 hm0 hml
          cases hs : heldBad y x with
          | true =>
            have HF := Lib.hid (F4.out hs)
            have HBX : Hid (Below w.heap.size w _) := Lib.hid (HB1.out.trans (Below.mono (by repeat' (first | (with_reducible exact HB8.out) | (with_reducible refine Below.drew ?_))) HB1.out.size))
            clear hs
            go_wp2_with fail
            go_ret
            exact ⟨by rw [HF.out]; rfl, HBX.out⟩
          | false =>
          have F5 := Lib.hid (E5.out hs)
          clear hs F4 E5
          go_wp2_with fail
          go_roundw
          case rel => exact ⟨m + 1 + 1, by omega, by go_num, F5.out, HB8.out⟩
          case measure => simp [intOf]; omega
    · obtain rfl : k = l.length := by omega
      have HF := Lib.hid (copiesFault_ok HSF.out h5 HS.out)
      have HBX := Lib.hid (HB1.out.trans (HB.out.mono HB1.out.size))
      go_wp2_with fail
      go_ret
      exact ⟨by rw [HF.out]; rfl, HBX.out⟩
end Go.Proofs.YtnkdcmibafjplaaGreatDoor
