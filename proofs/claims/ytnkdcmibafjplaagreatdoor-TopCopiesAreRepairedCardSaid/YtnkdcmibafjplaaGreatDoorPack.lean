/-
  'CheckPackage' of care.
-/
import Derived.Test.YtnkdcmibafjplaaGreatDoorProg
import Derived.Test.YtnkdcmibafjplaaGreatDoorFiles
import Derived.Test.YtnkdcmibafjplaaGreatDoorName
import Derived.Test.YtnkdcmibafjplaaGreatDoorWithin
namespace Go.Proofs.YtnkdcmibafjplaaGreatDoor
open Go.RowKit
set_option linter.unusedVariables false
set_option linter.unusedSimpArgs false

structure Ent where
  path : List UInt8
  size : Int
  digest : List UInt8
deriving Inhabited
def entRp : Rp Ent := (Rp.pair Rp.str (Rp.pair (Rp.int .i64) Rp.str)).via fun r => (bstr r.path, r.size, bstr r.digest)
theorem ent_open {w : World} {S : Nat → Prop} {us : List Value} {c : Ent} (h : entRp.ok w S us c) : us = [.string (bstr c.path), .int .i64 c.size, .string (bstr c.digest)] ∧ c.path.length ≤ maxLen ∧ c.digest.length ≤ maxLen := by
  obtain ⟨_, _, rfl, ⟨rfl, h1⟩, ⟨_, _, rfl, ⟨rfl, _⟩, ⟨rfl, h2⟩⟩⟩ := h
  exact ⟨rfl, h1, h2⟩
theorem ent_at {w : World} {S : Nat → Prop} {v : Value} {l : List Ent} (h : (Rp.sl entRp).ok w S [v] l) {k : Nat} (hk : k < l.length) :
    ∃ ad c, v = .slice (some ad) l.length c ∧ S ad.block ∧ w.cell? (ad.add (k * 3)) = some (.string (bstr l[k].path)) ∧ w.cell? ⟨(ad.add (k * 3)).block, (ad.add (k * 3)).off + 1, none⟩ = some (.int .i64 l[k].size) ∧
      w.cell? ⟨(ad.add (k * 3)).block, (ad.add (k * 3)).off + 2, none⟩ = some (.string (bstr l[k].digest)) ∧ l[k].path.length ≤ 9223372036854775807 ∧ l[k].digest.length ≤ 9223372036854775807 := by
  obtain ⟨A, c, rfl, _⟩ := Rp.sl_open h
  obtain ⟨ad, us, rfl, _, hb, hu, hcell⟩ := Rp.sl_at h hk
  obtain ⟨rfl, hz1, hz2⟩ := ent_open hu
  have c0 := hcell 0 _ rfl
  have c1 := hcell 1 _ rfl
  have c2 := hcell 2 _ rfl
  rw [add_fld _ _ _ (by omega)] at c1 c2
  unfold maxLen at hz1 hz2
  exact ⟨ad, c, rfl, hb, c0, c1, c2, by omega, by omega⟩
def entF (l : List Ent) (i : Nat) : Int :=
  if isPathB (l.getD i default).path = false then 3 else if withinB (l.getD i default).size 0 100000 = false then 1 else if isDig (l.getD i default).digest = false then 3
  else if 0 < i ∧ sle (l.getD i default).path (l.getD (i - 1) default).path = true then 8 else 0
def entsFault (l : List Ent) : Int := if 500 < l.length then 2 else firstF (entF l) l.length
theorem entF_1 {l : List Ent} {i : Nat} (hi : i < l.length) (h : isPathB l[i].path = false) : entF l i = 3 := by
  rw [entF, getD_at _ _ hi, if_pos h]
theorem entF_2 {l : List Ent} {i : Nat} (hi : i < l.length) (h : isPathB l[i].path = true) (h2 : withinB l[i].size 0 100000 = false) : entF l i = 1 := by
  rw [entF, getD_at _ _ hi, if_neg (by rw [h]; decide), if_pos h2]
theorem entF_3 {l : List Ent} {i : Nat} (hi : i < l.length) (h : isPathB l[i].path = true) (h2 : withinB l[i].size 0 100000 = true) (h3 : isDig l[i].digest = false) : entF l i = 3 := by
  rw [entF, getD_at _ _ hi, if_neg (by rw [h]; decide), if_neg (by rw [h2]; decide), if_pos h3]
theorem entF_4 {l : List Ent} {i : Nat} (hi : i < l.length) (h : isPathB l[i].path = true) (h2 : withinB l[i].size 0 100000 = true) (h5 : isDig l[i].digest = true) (h3 : 0 < i) (h4 : sle l[i].path (l[i - 1]'(by omega)).path = true) : entF l i = 8 := by
  rw [entF, getD_at _ _ hi, getD_at _ _ (show i - 1 < l.length by omega), if_neg (by rw [h]; decide), if_neg (by rw [h2]; decide), if_neg (by rw [h5]; decide), if_pos ⟨h3, h4⟩]
theorem entF_5 {l : List Ent} {i : Nat} (hi : i < l.length) (h : isPathB l[i].path = true) (h2 : withinB l[i].size 0 100000 = true) (h5 : isDig l[i].digest = true) (h3 : ¬ (0 < i ∧ sle l[i].path (l[i - 1]'(by omega)).path = true)) : entF l i = 0 := by
  rw [entF, getD_at _ _ hi, getD_at _ _ (show i - 1 < l.length by omega), if_neg (by rw [h]; decide), if_neg (by rw [h2]; decide), if_neg (by rw [h5]; decide), if_neg h3]
theorem entsFault_at {l : List Ent} {i : Nat} (h3 : ¬ 500 < l.length) (hi : i < l.length) (hS : ∀ j, j < i → entF l j = 0) {f : Int} (hf : entF l i = f) (h0 : f ≠ 0) : entsFault l = f := by
  rw [entsFault, if_neg h3, firstF_at hi hS (by rw [hf]; exact h0), hf]
theorem entsFault_ok {l : List Ent} (h3 : ¬ 500 < l.length) (hS : ∀ j, j < l.length → entF l j = 0) : entsFault l = 0 := by
  rw [entsFault, if_neg h3, firstF_ok hS]
def packFault (n : List UInt8) (l : List Ent) : Int := if isNm n = false then 5 else entsFault l
set_option maxRecDepth 100000 in
set_option maxHeartbeats 4000000 in
theorem checkPackage_any (n : List UInt8) (v : Value) (l : List Ent) (w : World) (h : (Rp.sl entRp).ok w (· < w.heap.size) [v] l) (hG : GInt w) (hn : n.length ≤ 9223372036854775807) :
    Calls Tryz.prog 43 #[.agg #[.string (bstr n), v]] w fun e w' => e = .returned (.int .i64 (packFault n l)) ∧ Below w.heap.size w w' := by
  obtain ⟨A, c, rfl, hl, hc, _⟩ := Rp.sl_open h
  unfold maxLen at hc
  have hab := (Below.refl w.heap.size w).alloc (Nat.le_refl _) (.cells #[.string (bstr n), .slice A l.length c] 40)
  have hkb := Blk.new w 40 [.string (bstr n), .slice A l.length c]
  have H := Lib.hid (Rp.ext _ h hab)
  have HG := Lib.hid (hG.ext hab)
  have HAB := Lib.hid hab
  have HKB := Lib.hid hkb
  have k0 : _ = some (Value.string (bstr n)) := hkb.cell 0
  have hlt0 : w.heap.size < (w.alloc (.cells #[.string (bstr n), .slice A l.length c] 40)).heap.size := by simp
  clear h hG hab hkb
  go_enter Tryz.func43, Tryz.ntmps43
  go_wp2_with fail
  refine (isName_any n _ hn).mono ?_
  rintro e w1 ⟨rfl, hb1⟩
  have HB1 := Lib.hid (ext_trans HAB.out hb1)
  have H1 := Lib.hid (Rp.ext _ H.out hb1)
  have HG1 := Lib.hid (HG.out.ext hb1)
  have HK1 := Lib.hid (HKB.out.same (same_below hb1) hlt0)
  have hlw1 : w.heap.size < w1.heap.size := by have := hb1.size; omega
  have j1 : _ = some (Value.slice A l.length c) := HK1.out.cell 1
  clear k0 H HG HAB HKB hlt0 hb1
  cases hnm : isNm n with
  | false =>
    have HF : Hid (packFault n l = 5) := Lib.hid (if_pos hnm)
    clear hnm
    go_wp2_with fail
    go_ret
    exact ⟨by rw [HF.out]; rfl, HB1.out⟩
  | true =>
  have HPF : Hid (packFault n l = entsFault l) := Lib.hid (if_neg (by rw [hnm]; decide))
  clear hnm
  by_cases h5 : 500 < l.length
  · have HF : Hid (entsFault l = 2) := Lib.hid (if_pos h5)
    have h5' : (500 : Int) < (l.length : Int) := by omega
    go_wp2_with fail
    go_ret
    exact ⟨by rw [HPF.out, HF.out]; rfl, HB1.out⟩
  have h5' : ¬ (500 : Int) < (l.length : Int) := by omega
  go_wp2_with fail
  go_loopw [16] (fun i wr => ∃ k : Nat, k ≤ l.length ∧ i = .int .i64 k ∧ Hid (∀ j, j < k → entF l j = 0) ∧ Hid (Below w1.heap.size w1 wr)) (fun i _ => l.length - (intOf i).toNat)
  case atStart => exact ⟨0, by omega, rfl, (fun j hj => absurd hj (by omega)), Below.refl _ _⟩
  case round =>
    clear j1
    obtain ⟨k, hk, rfl, HS, HB⟩ := hrel
    by_cases hlt : k < l.length
    · obtain ⟨ad, c', e1, hadb, c0, c1, c2, hz1, hz2⟩ := ent_at (Rp.below _ H1.out HB.out) hlt
      cases e1
      have F1 := Lib.hid (fun h => entsFault_at h5 hlt HS.out (entF_1 hlt h) (by decide))
      have F2 := Lib.hid (fun h h2 => entsFault_at h5 hlt HS.out (entF_2 hlt h h2) (by decide))
      have F3 := Lib.hid (fun h h2 h3 => entsFault_at h5 hlt HS.out (entF_3 hlt h h2 h3) (by decide))
      have F4 := Lib.hid (fun h h2 h3 h4 h5' => entsFault_at h5 hlt HS.out (entF_4 hlt h h2 h3 h4 h5') (by decide))
      have F5 := Lib.hid (fun h h2 h3 h4 => firstF_step HS.out (entF_5 hlt h h2 h3 h4))
      clear hadb
      generalize l[k] = x at *
      have HHB := Lib.hid (HB.out.alloc HB.out.size (.cells #[.string (bstr x.path), .int .i64 x.size, .string (bstr x.digest)] 66))
      have hkb := Blk.new wr 66 [.string (bstr x.path), .int .i64 x.size, .string (bstr x.digest)]
      have HKB := Lib.hid hkb
      have k0 : _ = some (Value.string (bstr x.path)) := hkb.cell 0
      have hlt1 : wr.heap.size < (wr.alloc (.cells #[.string (bstr x.path), .int .i64 x.size, .string (bstr x.digest)] 66)).heap.size := by simp
      have HGA := Lib.hid ((HG1.out.ext HB.out).ext ((Below.refl wr.heap.size wr).alloc (Nat.le_refl _) (.cells #[.string (bstr x.path), .int .i64 x.size, .string (bstr x.digest)] 66)))
      clear hkb
      go_wp2_with fail
      refine (isPath_any x.path _ HGA.out hz1).mono ?_
      rintro e w5 ⟨rfl, hb5⟩
      have HB5 := Lib.hid (HHB.out.trans (hb5.mono HHB.out.size))
      have hk5 := HKB.out.same (same_below hb5) hlt1
      have d1 : _ = some (Value.int .i64 x.size) := hk5.cell 1
      have d2 : _ = some (Value.string (bstr x.digest)) := hk5.cell 2
      have HK5 := Lib.hid hk5
      have hlt5 : wr.heap.size < w5.heap.size := by have := hb5.size; omega
      clear hb5 hk5 k0 HKB HHB HGA hlt1 c0 c1 c2
      cases hp : isPathB x.path with
      | false =>
        have HF := Lib.hid (F1.out hp)
        clear F1 F2 F3 F4 F5 hp
        go_wp2_with fail
        go_ret
        exact ⟨by rw [HPF.out, HF.out]; rfl, HB1.out.trans (HB5.out.mono HB1.out.size)⟩
      | true =>
      have HP := Lib.hid hp
      clear hp F1
      go_wp2_with fail
      refine (cwithin_any _ _ _ _).mono ?_
      rintro e w5' ⟨rfl, rfl⟩
      cases hwi : withinB x.size 0 100000 with
      | false =>
        have HF := Lib.hid (F2.out HP.out hwi)
        clear F2 F3 F4 F5 hwi
        go_wp2_with fail
        go_ret
        exact ⟨by rw [HPF.out, HF.out]; rfl, HB1.out.trans (HB5.out.mono HB1.out.size)⟩
      | true =>
      have HW := Lib.hid hwi
      clear hwi F2
      go_wp2_with fail
      refine (isDigest_any x.digest _ hz2).mono ?_
      rintro e w6 ⟨rfl, hb6⟩
      have HB6 := Lib.hid (HB5.out.trans (hb6.mono HB5.out.size))
      have hk6 := HK5.out.same (same_below hb6) hlt5
      have f0 : _ = some (Value.string (bstr x.path)) := hk6.cell 0
      have g1 := (HK1.out.same (same_below HB6.out) hlw1).cell 1
      change World.cell? _ _ = some (Value.slice (some ad) l.length c) at g1
      clear hb6 hk6 HK5 HB5 d1 d2
      cases hdg : isDig x.digest with
      | false =>
        have HF := Lib.hid (F3.out HP.out HW.out hdg)
        clear F3 F4 F5 hdg
        go_wp2_with fail
        go_ret
        exact ⟨by rw [HPF.out, HF.out]; rfl, HB1.out.trans (HB6.out.mono HB1.out.size)⟩
      | true =>
      have HD := Lib.hid hdg
      clear hdg F3
      by_cases hk0 : k = 0
      · have F6 := Lib.hid (F5.out HP.out HW.out HD.out (fun h => absurd h.1 (by omega)))
        have hk0' : ¬ (0 : Int) < (k : Int) := by omega
        have hk0n : ¬ 0 < k := by omega
        clear F4 F5 hk0
        go_wp2_with fail
        go_quiet (fail)
        go_wp2_with fail
        go_roundw
        case rel => exact ⟨k + 1, by omega, by go_num, F6.out, below_drewN HB6.out nq⟩
        case measure => simp [intOf]; omega
      · obtain ⟨m, rfl⟩ : ∃ m, k = m + 1 := ⟨k - 1, by omega⟩
        have hm : m < l.length := by omega
        obtain ⟨ad', c2, e1, _, p0, _, _, hy1, _⟩ := ent_at (Rp.below _ H1.out HB6.out) hm
        cases e1
        simp only [Nat.add_sub_cancel] at F4 F5
        have F4' : sle x.path l[m].path = true → entsFault l = 8 := fun h => F4.out HP.out HW.out HD.out (by omega) h
        have F5' : sle x.path l[m].path = false → ∀ j, j < m + 1 + 1 → entF l j = 0 := fun h => F5.out HP.out HW.out HD.out (fun e => by rw [h] at e; exact absurd e.2 (by decide))
        clear F4 F5
        generalize l[m] = y at *
        have F4 := Lib.hid F4'
        have F5 := Lib.hid F5'
        clear F4' F5'
        go_wp2_with fail
        have hk0' : (0 : Int) < (m : Int) + 1 := by omega
        have hkm : IntKind.i64.wrap ((m : Int) + 1 - 1) = m := by rw [Int.add_sub_cancel]; exact IntWalk.i64_in _ (by omega)
        have hm0 : (0 : Int) ≤ (m : Int) := by omega
        have hml : (m : Int) < (l.length : Int) := by omega
        go_quiet (fail)
        rw [sle_eq]
        clear hk0' hkm hm0 hml p0 hk0
        cases hs : sle x.path y.path with
        | true =>
          have HF := Lib.hid (F4.out hs)
          have HBB := Lib.hid (below_drewN HB6.out nq)
          clear hs
          go_wp2_with fail
          go_ret
          exact ⟨by rw [HPF.out, HF.out]; rfl, HB1.out.trans (HBB.out.mono HB1.out.size)⟩
        | false =>
        have F6 := Lib.hid (F5.out hs)
        clear hs F4 F5
        go_wp2_with fail
        go_roundw
        case rel => exact ⟨m + 1 + 1, by omega, by go_num, F6.out, below_drewN HB6.out nq⟩
        case measure => simp [intOf]; omega
    · obtain rfl : k = l.length := by omega
      have HF := Lib.hid (entsFault_ok h5 HS.out)
      go_wp2_with fail
      go_ret
      exact ⟨by rw [HPF.out, HF.out]; rfl, HB1.out.trans (HB.out.mono HB1.out.size)⟩
end Go.Proofs.YtnkdcmibafjplaaGreatDoor
