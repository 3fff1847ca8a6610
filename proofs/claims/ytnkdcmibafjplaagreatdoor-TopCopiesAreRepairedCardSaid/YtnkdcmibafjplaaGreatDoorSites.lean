/-
  'CheckSites' of both packages.
-/
import Derived.Test.YtnkdcmibafjplaaGreatDoorProg
import Derived.Test.YtnkdcmibafjplaaGreatDoorName
import Derived.Test.YtnkdcmibafjplaaGreatDoorFirstF
import Derived.Test.YtnkdcmibafjplaaGreatDoorRows11
namespace Go.Proofs.YtnkdcmibafjplaaGreatDoor
open Go.RowKit
set_option linter.unusedVariables false
set_option linter.unusedSimpArgs false

structure Site where
  name : List UInt8
  weight : Int
  room : Int
deriving Inhabited
def siteRp : Rp Site := (Rp.pair Rp.str (Rp.pair (Rp.int .i64) (Rp.int .i64))).via fun r => (bstr r.name, r.weight, r.room)
theorem site_open {w : World} {S : Nat → Prop} {us : List Value} {c : Site} (h : siteRp.ok w S us c) : us = [.string (bstr c.name), .int .i64 c.weight, .int .i64 c.room] ∧ c.name.length ≤ maxLen := by
  obtain ⟨_, _, rfl, ⟨rfl, h1⟩, ⟨_, _, rfl, ⟨rfl, _⟩, ⟨rfl, _⟩⟩⟩ := h
  exact ⟨rfl, h1⟩
def siteRange (x : Site) : Bool := (decide (1 ≤ x.weight) && decide (x.weight ≤ 1000)) && (decide (0 ≤ x.room) && decide (x.room ≤ 1000000))
def siteF (l : List Site) (i : Nat) : Int :=
  if isNm (l.getD i default).name = false then 5 else if 0 < i ∧ sle (l.getD i default).name (l.getD (i - 1) default).name = true then 8
  else if siteRange (l.getD i default) = false then 1 else 0
def sitesFault (l : List Site) : Int := if l.length = 0 then 9 else if 50 < l.length then 2 else firstF (siteF l) l.length
theorem siteF_1 {l : List Site} {i : Nat} (hi : i < l.length) (h : isNm l[i].name = false) : siteF l i = 5 := by
  rw [siteF, getD_at _ _ hi, if_pos h]
theorem siteF_2 {l : List Site} {i : Nat} (hi : i < l.length) (h : isNm l[i].name = true) (h2 : 0 < i) (h3 : sle l[i].name (l[i - 1]'(by omega)).name = true) : siteF l i = 8 := by
  rw [siteF, getD_at _ _ hi, getD_at _ _ (show i - 1 < l.length by omega), if_neg (by rw [h]; decide), if_pos ⟨h2, h3⟩]
theorem siteF_3 {l : List Site} {i : Nat} (hi : i < l.length) (h : isNm l[i].name = true) (h2 : ¬ (0 < i ∧ sle l[i].name (l[i - 1]'(by omega)).name = true)) (h3 : siteRange l[i] = false) : siteF l i = 1 := by
  rw [siteF, getD_at _ _ hi, getD_at _ _ (show i - 1 < l.length by omega), if_neg (by rw [h]; decide), if_neg h2, if_pos h3]
theorem siteF_4 {l : List Site} {i : Nat} (hi : i < l.length) (h : isNm l[i].name = true) (h2 : ¬ (0 < i ∧ sle l[i].name (l[i - 1]'(by omega)).name = true)) (h3 : siteRange l[i] = true) : siteF l i = 0 := by
  rw [siteF, getD_at _ _ hi, getD_at _ _ (show i - 1 < l.length by omega), if_neg (by rw [h]; decide), if_neg h2, if_neg (by rw [h3]; decide)]
theorem sitesFault_at {l : List Site} {i : Nat} (h3 : ¬ 50 < l.length) (hi : i < l.length) (hS : ∀ j, j < i → siteF l j = 0) {f : Int} (hf : siteF l i = f) (h0 : f ≠ 0) : sitesFault l = f := by
  rw [sitesFault, if_neg (by omega), if_neg h3, firstF_at hi hS (by rw [hf]; exact h0), hf]
theorem sitesFault_ok {l : List Site} (h0 : ¬ l.length = 0) (h3 : ¬ 50 < l.length) (hS : ∀ j, j < l.length → siteF l j = 0) : sitesFault l = 0 := by
  rw [sitesFault, if_neg h0, if_neg h3, firstF_ok hS]
theorem range_no {x : Site} (h : ¬ 1 ≤ x.weight ∨ (1 ≤ x.weight ∧ ¬ x.weight ≤ 1000) ∨ (1 ≤ x.weight ∧ x.weight ≤ 1000 ∧ ¬ 0 ≤ x.room) ∨ (1 ≤ x.weight ∧ x.weight ≤ 1000 ∧ 0 ≤ x.room ∧ ¬ x.room ≤ 1000000)) : siteRange x = false := by
  unfold siteRange
  rw [Bool.and_eq_false_iff, Bool.and_eq_false_iff, Bool.and_eq_false_iff, decide_eq_false_iff_not, decide_eq_false_iff_not, decide_eq_false_iff_not, decide_eq_false_iff_not]
  omega
theorem range_yes {x : Site} (h1 : 1 ≤ x.weight) (h2 : x.weight ≤ 1000) (h3 : 0 ≤ x.room) (h4 : x.room ≤ 1000000) : siteRange x = true := by
  unfold siteRange; rw [decide_eq_true h1, decide_eq_true h2, decide_eq_true h3, decide_eq_true h4]; rfl
set_option maxRecDepth 100000 in
set_option maxHeartbeats 4000000 in
theorem checkSites_any (v : Value) (l : List Site) (w : World) (h : (Rp.sl siteRp).ok w (· < w.heap.size) [v] l) :
    Calls Tryz.prog 68 #[v] w fun e w' => e = .returned (.int .i64 (sitesFault l)) ∧ Below w.heap.size w w' := by
  obtain ⟨A, c, rfl, hl, hc, _⟩ := Rp.sl_open h
  unfold maxLen at hc
  have H := Lib.hid h
  clear h
  by_cases h0 : l.length = 0
  · have HF : Hid (sitesFault l = 9) := Lib.hid (if_pos h0)
    have hb : ((l.length : Int) == 0) = true := by simp [h0]
    clear h0
    go_enter Tryz.func68, Tryz.ntmps68
    go_wp2_with fail
    go_ret
    exact ⟨by rw [HF.out]; rfl, Below.refl _ _⟩
  have hb0 : ((l.length : Int) == 0) = false := by rw [beq_eq_false_iff_ne]; omega
  by_cases h5 : 50 < l.length
  · have HF : Hid (sitesFault l = 2) := Lib.hid (by rw [sitesFault, if_neg h0, if_pos h5])
    have h5' : (50 : Int) < (l.length : Int) := by omega
    go_enter Tryz.func68, Tryz.ntmps68
    go_wp2_with fail
    go_ret
    exact ⟨by rw [HF.out]; rfl, Below.refl _ _⟩
  have h5' : ¬ (50 : Int) < (l.length : Int) := by omega
  go_enter Tryz.func68, Tryz.ntmps68
  go_wp2_with fail
  go_loopw [13] (fun i wr => ∃ k : Nat, k ≤ l.length ∧ i = .int .i64 k ∧ Hid (∀ j, j < k → siteF l j = 0) ∧ Hid (Below w.heap.size w wr)) (fun i _ => l.length - (intOf i).toNat)
  case atStart => exact ⟨0, by omega, rfl, (fun j hj => absurd hj (by omega)), Below.refl _ _⟩
  case round =>
    obtain ⟨k, hk, rfl, HS, HB⟩ := hrel
    by_cases hlt : k < l.length
    · obtain ⟨ad, us, rfl, _, hadb, hu, hcell⟩ := Rp.sl_at (Rp.below _ H.out HB.out) hlt
      obtain ⟨rfl, hz1⟩ := site_open hu
      have c0 := hcell 0 _ rfl
      rw [Nat.add_zero] at c0
      change World.cell? _ (ad.add (k * 3)) = some (.string (bstr l[k].name)) at c0
      have c1 := hcell 1 _ rfl
      have c2 := hcell 2 _ rfl
      rw [add_fld _ _ _ (by omega)] at c1 c2
      change World.cell? _ ⟨(ad.add (k * 3)).block, (ad.add (k * 3)).off + 1, none⟩ = some (.int .i64 l[k].weight) at c1
      change World.cell? _ ⟨(ad.add (k * 3)).block, (ad.add (k * 3)).off + 2, none⟩ = some (.int .i64 l[k].room) at c2
      unfold maxLen at hz1
      have F1 := Lib.hid (fun h => sitesFault_at h5 hlt HS.out (siteF_1 hlt h) (by decide))
      have F2 := Lib.hid (fun h h2 h3 => sitesFault_at h5 hlt HS.out (siteF_2 hlt h h2 h3) (by decide))
      have G3 := Lib.hid (fun h h2 h3 => sitesFault_at h5 hlt HS.out (siteF_3 hlt h h2 h3) (by decide))
      have G4 := Lib.hid (fun h h2 h3 => firstF_step HS.out (siteF_4 hlt h h2 h3))
      clear hcell hu hadb
      generalize hx : l[k] = x at *
      clear hx
      have HHB := Lib.hid (HB.out.alloc HB.out.size (.cells #[.string (bstr x.name), .int .i64 x.weight, .int .i64 x.room] 44))
      have hkb := Blk.new wr 44 [.string (bstr x.name), .int .i64 x.weight, .int .i64 x.room]
      have k0 : _ = some (Value.string (bstr x.name)) := hkb.cell 0
      have k1 : _ = some (Value.int .i64 x.weight) := hkb.cell 1
      have k2 : _ = some (Value.int .i64 x.room) := hkb.cell 2
      go_wp2_with fail
      refine (isName_any x.name _ hz1).mono ?_
      rintro e w5 ⟨rfl, hb5⟩
      have HB5 := Lib.hid (HHB.out.trans (hb5.mono HHB.out.size))
      have hk5 := hkb.same (same_below hb5) (by simp)
      have d0 : w5.cell? ⟨wr.heap.size, 0, none⟩ = some (.string (bstr x.name)) := hk5.cell 0
      have d1 : w5.cell? ⟨wr.heap.size, 1, none⟩ = some (.int .i64 x.weight) := hk5.cell 1
      have d2 : w5.cell? ⟨wr.heap.size, 2, none⟩ = some (.int .i64 x.room) := hk5.cell 2
      clear hb5 hk5 k0 k1 k2 hkb HHB
      cases hnm : isNm x.name with
      | false =>
        have HF := Lib.hid (F1.out hnm)
        clear hnm F1 F2 G3 G4
        go_wp2_with fail
        go_ret
        exact ⟨by rw [HF.out]; rfl, HB5.out⟩
      | true =>
      have HNM := Lib.hid hnm
      clear hnm F1
      by_cases hk0 : k = 0
      · have F3 := Lib.hid (fun h => G3.out HNM.out (fun h => absurd h.1 (by omega)) h)
        have F4 := Lib.hid (fun h => G4.out HNM.out (fun h => absurd h.1 (by omega)) h)
        have hk0' : ¬ (0 : Int) < (k : Int) := by omega
        have hk0n : ¬ 0 < k := by omega
        clear F2 G3 G4 hk0 HNM
        go_wp2_with fail
        go_quiet (fail)
        have e1 : (w5.drewN nq).cell? ⟨wr.heap.size, 1, none⟩ = some (.int .i64 x.weight) := d1
        have e2 : (w5.drewN nq).cell? ⟨wr.heap.size, 2, none⟩ = some (.int .i64 x.room) := d2
        have HB7 := Lib.hid (below_drewN HB5.out nq)
        clear d0 d1 d2 HB5
        generalize w5.drewN nq = w7 at *
        have hwt : x.weight = x.weight := rfl
        obtain ⟨nm, wt, rm⟩ := x
        simp only [] at e1 e2 F3 F4 ⊢
        by_cases good : (1 ≤ wt ∧ wt ≤ 1000) ∧ (0 ≤ rm ∧ rm ≤ 1000000)
        · obtain ⟨⟨q1, q2⟩, q3, q4⟩ := good
          have F5 := Lib.hid (F4.out (range_yes (x := ⟨nm, wt, rm⟩) q1 q2 q3 q4))
          clear F3 F4
          go_wp2
          go_roundw
          case rel => exact ⟨k + 1, by omega, by go_num, F5.out, HB7.out⟩
          case measure => simp [intOf]; omega
        · have key : ¬ 1 ≤ wt ∨ (1 ≤ wt ∧ ¬ wt ≤ 1000) ∨ (1 ≤ wt ∧ wt ≤ 1000 ∧ ¬ 0 ≤ rm) ∨ (1 ≤ wt ∧ wt ≤ 1000 ∧ 0 ≤ rm ∧ ¬ rm ≤ 1000000) := by omega
          have HF := Lib.hid (F3.out (range_no (x := ⟨nm, wt, rm⟩) key))
          clear good F3 F4
          rcases key with q1 | ⟨q1, q2⟩ | ⟨q1, q2, q3⟩ | ⟨q1, q2, q3, q4⟩
          all_goals
            go_wp2
            go_ret
            exact ⟨by rw [HF.out]; rfl, HB7.out⟩
      · obtain ⟨m, rfl⟩ : ∃ m, k = m + 1 := ⟨k - 1, by omega⟩
        have hm : m < l.length := by omega
        obtain ⟨ad', us, e1, _, _, hu, hcell⟩ := Rp.sl_at (Rp.below _ H.out HB5.out) hm
        injection e1 with e1
        subst e1
        obtain ⟨rfl, hy1⟩ := site_open hu
        have p0 := hcell 0 _ rfl
        rw [Nat.add_zero] at p0
        change World.cell? _ (ad.add (m * 3)) = some (.string (bstr l[m].name)) at p0
        simp only [Nat.add_sub_cancel] at F2 G3 G4
        have F2' : sle x.name l[m].name = true → sitesFault l = 8 := fun h => F2.out HNM.out (by omega) h
        have F3' : sle x.name l[m].name = false → siteRange x = false → sitesFault l = 1 := fun h => G3.out HNM.out (fun e => by rw [h] at e; exact absurd e.2 (by decide))
        have F4' : sle x.name l[m].name = false → siteRange x = true → ∀ j, j < m + 1 + 1 → siteF l j = 0 := fun h => G4.out HNM.out (fun e => by rw [h] at e; exact absurd e.2 (by decide))
        clear hcell hu F2 G3 G4
        generalize l[m] = y at *
        have F2 := Lib.hid F2'
        have E3 := Lib.hid F3'
        have E4 := Lib.hid F4'
        clear F2' F3' F4'
        go_wp2_with fail
        have hk0' : (0 : Int) < (m : Int) + 1 := by omega
        have hkm : IntKind.i64.wrap ((m : Int) + 1 - 1) = m := by rw [Int.add_sub_cancel]; exact IntWalk.i64_in _ (by omega)
        have hm0 : (0 : Int) ≤ (m : Int) := by omega
        have hml : (m : Int) < (l.length : Int) := by omega
        go_quiet (fail)
        rw [sle_eq]
        clear hk0' hkm hm0 hml p0 hk0
        cases hs : sle x.name y.name with
        | true =>
          have HF := Lib.hid (F2.out hs)
          have HBB := Lib.hid (below_drewN HB5.out nq)
          clear hs
          go_wp2_with fail
          go_ret
          exact ⟨by rw [HF.out]; rfl, HBB.out⟩
        | false =>
        have F3 := Lib.hid (E3.out hs)
        have F4 := Lib.hid (E4.out hs)
        clear hs F2 E3 E4
        have e1 : (w5.drewN nq).cell? ⟨wr.heap.size, 1, none⟩ = some (.int .i64 x.weight) := d1
        have e2 : (w5.drewN nq).cell? ⟨wr.heap.size, 2, none⟩ = some (.int .i64 x.room) := d2
        have HB7 := Lib.hid (below_drewN HB5.out nq)
        clear d0 d1 d2 HB5
        generalize w5.drewN nq = w7 at *
        have hwt : x.weight = x.weight := rfl
        obtain ⟨nm, wt, rm⟩ := x
        simp only [] at e1 e2 F3 F4 ⊢
        by_cases good : (1 ≤ wt ∧ wt ≤ 1000) ∧ (0 ≤ rm ∧ rm ≤ 1000000)
        · obtain ⟨⟨q1, q2⟩, q3, q4⟩ := good
          have F5 := Lib.hid (F4.out (range_yes (x := ⟨nm, wt, rm⟩) q1 q2 q3 q4))
          clear F3 F4
          go_wp2
          go_roundw
          case rel => exact ⟨m + 1 + 1, by omega, by go_num, F5.out, HB7.out⟩
          case measure => simp [intOf]; omega
        · have key : ¬ 1 ≤ wt ∨ (1 ≤ wt ∧ ¬ wt ≤ 1000) ∨ (1 ≤ wt ∧ wt ≤ 1000 ∧ ¬ 0 ≤ rm) ∨ (1 ≤ wt ∧ wt ≤ 1000 ∧ 0 ≤ rm ∧ ¬ rm ≤ 1000000) := by omega
          have HF := Lib.hid (F3.out (range_no (x := ⟨nm, wt, rm⟩) key))
          clear good F3 F4
          rcases key with q1 | ⟨q1, q2⟩ | ⟨q1, q2, q3⟩ | ⟨q1, q2, q3, q4⟩
          all_goals
            go_wp2
            go_ret
            exact ⟨by rw [HF.out]; rfl, HB7.out⟩
    · obtain rfl : k = l.length := by omega
      have HF := Lib.hid (sitesFault_ok h0 h5 HS.out)
      go_wp2_with fail
      go_ret
      exact ⟨by rw [HF.out]; rfl, HB.out⟩
end Go.Proofs.YtnkdcmibafjplaaGreatDoor
