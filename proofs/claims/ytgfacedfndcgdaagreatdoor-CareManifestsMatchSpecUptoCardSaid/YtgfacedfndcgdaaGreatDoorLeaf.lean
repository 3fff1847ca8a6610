/-
  'checkLeaf', 'checkLeaves' of both packages.
-/
import Derived.Test.YtgfacedfndcgdaaGreatDoorProg
import Derived.Test.YtgfacedfndcgdaaGreatDoorRow
import Derived.Test.YtgfacedfndcgdaaGreatDoorFirstF
import Derived.Test.YtgfacedfndcgdaaGreatDoorRows11
namespace Go.Proofs.YtgfacedfndcgdaaGreatDoor
open Go.RowKit
set_option linter.unusedVariables false
set_option linter.unusedSimpArgs false

structure Leaf where
  key : List UInt8
  digest : List UInt8
deriving Inhabited
def leafRp : Rp Leaf := (Rp.pair Rp.str Rp.str).via fun r => (bstr r.key, bstr r.digest)
theorem leaf_open {w : World} {S : Nat → Prop} {us : List Value} {c : Leaf} (h : leafRp.ok w S us c) : us = [.string (bstr c.key), .string (bstr c.digest)] ∧ c.key.length ≤ maxLen ∧ c.digest.length ≤ maxLen := by
  obtain ⟨_, _, rfl, ⟨rfl, h1⟩, ⟨rfl, h2⟩⟩ := h
  exact ⟨rfl, h1, h2⟩
def leafF (x : Leaf) : Int := if isRowB x.key 2100 = false ∨ isDig x.digest = false then 3 else 0
def lvF (l : List Leaf) (i : Nat) : Int :=
  if leafF (l.getD i default) ≠ 0 then leafF (l.getD i default) else if 0 < i ∧ sle (l.getD i default).key (l.getD (i - 1) default).key = true then 8 else 0
def leavesFault (l : List Leaf) : Int := if 1000 < l.length then 2 else firstF (lvF l) l.length
theorem lvF_1 {l : List Leaf} {i : Nat} (hi : i < l.length) (h : leafF l[i] ≠ 0) : lvF l i = leafF l[i] := by
  rw [lvF, getD_at _ _ hi, if_pos h]
theorem lvF_2 {l : List Leaf} {i : Nat} (hi : i < l.length) (h : leafF l[i] = 0) (h2 : 0 < i) (h3 : sle l[i].key (l[i - 1]'(by omega)).key = true) : lvF l i = 8 := by
  rw [lvF, getD_at _ _ hi, getD_at _ _ (show i - 1 < l.length by omega), if_neg (by rw [h]; decide), if_pos ⟨h2, h3⟩]
theorem lvF_3 {l : List Leaf} {i : Nat} (hi : i < l.length) (h : leafF l[i] = 0) (h2 : ¬ (0 < i ∧ sle l[i].key (l[i - 1]'(by omega)).key = true)) : lvF l i = 0 := by
  rw [lvF, getD_at _ _ hi, getD_at _ _ (show i - 1 < l.length by omega), if_neg (by rw [h]; decide), if_neg h2]
theorem leavesFault_at {l : List Leaf} {i : Nat} (h3 : ¬ 1000 < l.length) (hi : i < l.length) (hS : ∀ j, j < i → lvF l j = 0) {f : Int} (hf : lvF l i = f) (h0 : f ≠ 0) : leavesFault l = f := by
  rw [leavesFault, if_neg h3, firstF_at hi hS (by rw [hf]; exact h0), hf]
theorem leavesFault_ok {l : List Leaf} (h3 : ¬ 1000 < l.length) (hS : ∀ j, j < l.length → lvF l j = 0) : leavesFault l = 0 := by
  rw [leavesFault, if_neg h3, firstF_ok hS]
theorem leavesFault_nil : leavesFault [] = 0 := rfl
theorem leaf_sizes {w : World} {S : Nat → Prop} {v : Value} {l : List Leaf} (h : (Rp.sl leafRp).ok w S [v] l) : ∀ r ∈ l, r.key.length ≤ maxLen ∧ r.digest.length ≤ maxLen := by
  intro r hr
  obtain ⟨k, hk, rfl⟩ := List.getElem_of_mem hr
  obtain ⟨A, cp, rfl, _⟩ := Rp.sl_open h
  obtain ⟨_, us, _, _, _, hu, _⟩ := Rp.sl_at h hk
  exact (leaf_open hu).2
set_option maxRecDepth 100000 in
set_option maxHeartbeats 1000000 in
theorem checkLeaf_any (x : Leaf) (w : World) (h1 : x.key.length ≤ 9223372036854775807) (h2 : x.digest.length ≤ 9223372036854775807) :
    Calls Tryz.prog 53 #[.agg #[.string (bstr x.key), .string (bstr x.digest)]] w fun e w' => e = .returned (.int .i64 (leafF x)) ∧ Below w.heap.size w w' := by
  have HAL := Lib.hid ((Below.refl w.heap.size w).alloc (Nat.le_refl _) (.cells #[.string (bstr x.key), .string (bstr x.digest)] 78))
  have hkb := Blk.new w 78 [.string (bstr x.key), .string (bstr x.digest)]
  have k0 : _ = some (Value.string (bstr x.key)) := hkb.cell 0
  have k1 : _ = some (Value.string (bstr x.digest)) := hkb.cell 1
  clear hkb
  have hc1 := isRow_any x.key 2100 (w.alloc (.cells #[.string (bstr x.key), .string (bstr x.digest)] 78)) h1
  go_enter Tryz.func53, Tryz.ntmps53
  go_wp2_with fail
  refine hc1.mono ?_
  rintro e w1 ⟨rfl, rfl⟩
  clear hc1
  cases hr : isRowB x.key 2100 with
  | false =>
    have HF : Hid (leafF x = 3) := Lib.hid (if_pos (.inl hr))
    clear hr
    go_wp2_with fail
    go_ret
    exact ⟨by rw [HF.out]; rfl, HAL.out⟩
  | true =>
  have HR := Lib.hid hr
  clear hr
  go_wp2_with fail
  refine (isDigest_any x.digest _ h2).mono ?_
  rintro e w1 ⟨rfl, hb1⟩
  have HB1 := Lib.hid (HAL.out.trans (hb1.mono HAL.out.size))
  clear hb1
  cases hd : isDig x.digest with
  | false =>
    have HF : Hid (leafF x = 3) := Lib.hid (if_pos (.inr hd))
    clear hd
    go_wp2_with fail
    go_ret
    exact ⟨by rw [HF.out]; rfl, HB1.out⟩
  | true =>
    have HF : Hid (leafF x = 0) := Lib.hid (if_neg (by rw [HR.out, hd]; simp))
    clear hd
    go_wp2_with fail
    go_ret
    exact ⟨by rw [HF.out]; rfl, HB1.out⟩
set_option maxRecDepth 100000 in
set_option maxHeartbeats 2000000 in
theorem checkLeaves_any (v : Value) (l : List Leaf) (w : World) (h : (Rp.sl leafRp).ok w (· < w.heap.size) [v] l) :
    Calls Tryz.prog 34 #[v] w fun e w' => e = .returned (.int .i64 (leavesFault l)) ∧ Below w.heap.size w w' := by
  obtain ⟨A, c, rfl, hl, hc, _⟩ := Rp.sl_open h
  unfold maxLen at hc
  have H := Lib.hid h
  clear h
  by_cases h5 : 1000 < l.length
  · have HF : Hid (leavesFault l = 2) := Lib.hid (if_pos h5)
    have h5' : (1000 : Int) < (l.length : Int) := by omega
    go_enter Tryz.func34, Tryz.ntmps34
    go_wp2_with fail
    go_ret
    exact ⟨by rw [HF.out]; rfl, Below.refl _ _⟩
  have h5' : ¬ (1000 : Int) < (l.length : Int) := by omega
  go_enter Tryz.func34, Tryz.ntmps34
  go_wp2_with fail
  go_loopw [11] (fun i wr => ∃ k : Nat, k ≤ l.length ∧ i = .int .i64 k ∧ Hid (∀ j, j < k → lvF l j = 0) ∧ Hid (Below w.heap.size w wr)) (fun i _ => l.length - (intOf i).toNat)
  case atStart => exact ⟨0, by omega, rfl, (fun j hj => absurd hj (by omega)), Below.refl _ _⟩
  case round =>
    obtain ⟨k, hk, rfl, HS, HB⟩ := hrel
    by_cases hlt : k < l.length
    · obtain ⟨ad, us, rfl, _, hadb, hu, hcell⟩ := Rp.sl_at (Rp.below _ H.out HB.out) hlt
      obtain ⟨rfl, hz1, hz2⟩ := leaf_open hu
      have c0 := hcell 0 _ rfl
      rw [Nat.add_zero] at c0
      change World.cell? _ (ad.add (k * 2)) = some (.string (bstr l[k].key)) at c0
      have c1 := hcell 1 _ rfl
      rw [add_fld _ _ _ (by omega)] at c1
      change World.cell? _ ⟨(ad.add (k * 2)).block, (ad.add (k * 2)).off + 1, none⟩ = some (.string (bstr l[k].digest)) at c1
      unfold maxLen at hz1 hz2
      have F1 := Lib.hid (fun h => leavesFault_at h5 hlt HS.out (lvF_1 hlt h) h)
      have F2 := Lib.hid (fun h h2 h3 => leavesFault_at h5 hlt HS.out (lvF_2 hlt h h2 h3) (by decide))
      have F3 := Lib.hid (fun h h2 => firstF_step HS.out (lvF_3 hlt h h2))
      clear hcell hu hadb
      generalize hx : l[k] = x at *
      clear hx
      have HHB := Lib.hid (HB.out.alloc HB.out.size (.cells #[.string (bstr x.key), .string (bstr x.digest)] 78))
      have hkb := Blk.new wr 78 [.string (bstr x.key), .string (bstr x.digest)]
      have k0 : _ = some (Value.string (bstr x.key)) := hkb.cell 0
      have k1 : _ = some (Value.string (bstr x.digest)) := hkb.cell 1
      go_wp2_with fail
      refine (checkLeaf_any x _ hz1 hz2).mono ?_
      rintro e w5 ⟨rfl, hb5⟩
      have HB5 := Lib.hid (HHB.out.trans (hb5.mono HHB.out.size))
      have hk5 := hkb.same (same_below hb5) (by simp)
      have d0 : w5.cell? ⟨wr.heap.size, 0, none⟩ = some (.string (bstr x.key)) := hk5.cell 0
      clear hb5 hk5 k0 k1 hkb HHB
      by_cases hlf : leafF x = 0
      case neg =>
        have HF := Lib.hid (F1.out hlf)
        have hb : (leafF x != 0) = true := by simpa using hlf
        clear hlf F1 F2 F3
        go_wp2_with fail
        go_ret
        exact ⟨by rw [HF.out]; rfl, HB5.out⟩
      rw [hlf]
      have HLF := Lib.hid hlf
      clear hlf F1
      by_cases hk0 : k = 0
      · have F5 := Lib.hid (F3.out HLF.out (fun h => absurd h.1 (by omega)))
        have hk0' : ¬ (0 : Int) < (k : Int) := by omega
        have hk0n : ¬ 0 < k := by omega
        clear F2 F3 hk0
        go_wp2_with fail
        go_quiet (fail)
        go_wp2_with fail
        go_roundw
        case rel => exact ⟨k + 1, by omega, by go_num, F5.out, below_drewN HB5.out nq⟩
        case measure => simp [intOf]; omega
      · obtain ⟨m, rfl⟩ : ∃ m, k = m + 1 := ⟨k - 1, by omega⟩
        have hm : m < l.length := by omega
        obtain ⟨ad', us, e1, _, _, hu, hcell⟩ := Rp.sl_at (Rp.below _ H.out HB5.out) hm
        injection e1 with e1
        subst e1
        obtain ⟨rfl, hy1, hy2⟩ := leaf_open hu
        have p0 := hcell 0 _ rfl
        rw [Nat.add_zero] at p0
        change World.cell? _ (ad.add (m * 2)) = some (.string (bstr l[m].key)) at p0
        simp only [Nat.add_sub_cancel] at F2 F3
        have F2' : sle x.key l[m].key = true → leavesFault l = 8 := fun h => F2.out HLF.out (by omega) h
        have F3' : sle x.key l[m].key = false → ∀ j, j < m + 1 + 1 → lvF l j = 0 := fun h => F3.out HLF.out (fun e => by rw [h] at e; exact absurd e.2 (by decide))
        clear hcell hu F2 F3
        generalize l[m] = y at *
        have F2 := Lib.hid F2'
        have F3 := Lib.hid F3'
        clear F2' F3'
        go_wp2_with fail
        have hk0' : (0 : Int) < (m : Int) + 1 := by omega
        have hkm : IntKind.i64.wrap ((m : Int) + 1 - 1) = m := by rw [Int.add_sub_cancel]; exact IntWalk.i64_in _ (by omega)
        have hm0 : (0 : Int) ≤ (m : Int) := by omega
        have hml : (m : Int) < (l.length : Int) := by omega
        go_quiet (fail)
        rw [sle_eq]
        clear hk0' hkm hm0 hml p0 hk0
        cases hs : sle x.key y.key with
        | true =>
          have HF := Lib.hid (F2.out hs)
          have HBB := Lib.hid (below_drewN HB5.out nq)
          clear hs
          go_wp2_with fail
          go_ret
          exact ⟨by rw [HF.out]; rfl, HBB.out⟩
        | false =>
        have F5 := Lib.hid (F3.out hs)
        clear hs F2 F3
        go_wp2_with fail
        go_roundw
        case rel => exact ⟨m + 1 + 1, by omega, by go_num, F5.out, below_drewN HB5.out nq⟩
        case measure => simp [intOf]; omega
    · obtain rfl : k = l.length := by omega
      have HF := Lib.hid (leavesFault_ok h5 HS.out)
      go_wp2_with fail
      go_ret
      exact ⟨by rw [HF.out]; rfl, HB.out⟩
end Go.Proofs.YtgfacedfndcgdaaGreatDoor
