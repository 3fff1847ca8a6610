/-
  slices.BinarySearchFunc at copies; 'copyAt' of package care, 'held' of the reference.
-/
import Derived.Test.YtnkdcmibafjplaaGreatDoorAftPlain
namespace Go.Proofs.YtnkdcmibafjplaaGreatDoor
open Go.RowKit
set_option linter.unusedVariables false
set_option linter.unusedSimpArgs false

set_option maxRecDepth 100000 in
set_option maxHeartbeats 4000000 in
theorem bsHeld_any (v : Value) (l : List Held) (h : Held) (w : World) (h0 : (Rp.sl heldRp).ok w (· < w.heap.size) [v] l) (hs : HSorted l) (hm : l.length ≤ 1000000) :
    Calls Tryz.prog 40 #[v, .agg #[.string (bstr h.item), .string (bstr h.site), .string (bstr h.digest)], .func (.func 41) #[] #[]] w fun e w' => e = .returned (.tuple #[.int .i64 (lbN l h), .bool (hitL l h)]) ∧ Below w.heap.size w w' := by
  obtain ⟨A, c, rfl, hl, hc, _⟩ := Rp.sl_open h0
  unfold maxLen at hc
  have H0 := Lib.hid h0
  have HS0 := Lib.hid hs
  have hal := (Below.refl w.heap.size w).alloc (Nat.le_refl _) (.cells #[.string (bstr h.item), .string (bstr h.site), .string (bstr h.digest)] 54)
  have hkb := Blk.new w 54 [.string (bstr h.item), .string (bstr h.site), .string (bstr h.digest)]
  have HKB := Lib.hid hkb
  have HAL := Lib.hid hal
  clear h0 hs hal hkb
  go_enter Tryz.func40, Tryz.ntmps40
  go_wp2_with fail
  go_loopw [9, 10] (fun vi vj wr => ∃ i j : Nat, i ≤ j ∧ j ≤ l.length ∧ vi = .int .i64 i ∧ vj = .int .i64 j ∧ Hid (∀ q, q < i → ∀ hq : q < l.length, heldCmp l[q] h < 0) ∧ Hid (∀ q, j ≤ q → ∀ hq : q < l.length, 0 ≤ heldCmp l[q] h) ∧ Hid (Below w.heap.size w wr) ∧ Hid (Blk wr w.heap.size 54 [.string (bstr h.item), .string (bstr h.site), .string (bstr h.digest)])) (fun vi vj _ => (intOf vj).toNat - (intOf vi).toNat)
  case atStart => exact ⟨0, l.length, Nat.zero_le _, Nat.le_refl _, rfl, rfl, (fun q hq => absurd hq (by omega)), (fun q hq hl => absurd hl (by omega)), HAL.out, HKB.out⟩
  case round =>
    clear HKB HAL
    obtain ⟨i, j, hij, hjl, rfl, rfl, HI, HJ, HB, HK⟩ := hrel
    have q0 : _ = some (Value.string (bstr h.item)) := HK.out.cell 0
    have q1 : _ = some (Value.string (bstr h.site)) := HK.out.cell 1
    have q2 : _ = some (Value.string (bstr h.digest)) := HK.out.cell 2
    have hqb := HK.out.lt
    by_cases hlt : i < j
    · obtain ⟨m, hmm⟩ : ∃ m : Nat, m = (i + j) / 2 := ⟨_, rfl⟩
      have hml : m < l.length := by omega
      have hmi : i ≤ m ∧ m < j := by omega
      have HMI := Lib.hid (show ((i : Int) + (j : Int)) / 2 = (m : Int) by omega)
      obtain ⟨ad, c', e1, hadb, p0, p1, p2, hy1, hy2, hy3⟩ := held_at (Rp.below _ H0.out HB.out) hml
      cases e1
      have hpb : (ad.add (m * 3)).block < wr.heap.size := by rw [add_block]; have := HB.out.size; have hadb' : ad.block < w.heap.size := hadb; omega
      have HLO : Hid (heldCmp l[m] h < 0 → ∀ q, q < m + 1 → ∀ hq : q < l.length, heldCmp l[q] h < 0) := Lib.hid (fun hy q hq hql => by
        rcases Nat.lt_or_ge q m with h1 | h1
        · exact hc_tr (sorted_lt HS0.out h1 hml) hy
        · obtain rfl : q = m := by omega
          exact hy)
      have HHI : Hid (0 ≤ heldCmp l[m] h → ∀ q, m ≤ q → ∀ hq : q < l.length, 0 ≤ heldCmp l[q] h) := Lib.hid (fun hy q hq hql => by
        rcases Nat.lt_or_ge m q with h1 | h1
        · rcases Int.lt_or_le (heldCmp l[q] h) 0 with he | he
          · have := hc_tr (sorted_lt HS0.out h1 hql) he
            omega
          · exact he
        · obtain rfl : q = m := by omega
          exact hy)
      clear hadb
      generalize l[m] = y at *
      have raj : IntKind.i64.wrap (((i : Int) + (j : Int)) / 2 : Int) = (((i : Int) + (j : Int)) / 2 : Int) := by rw [IntKind.wrap_i64]; omega
      have rak : IntKind.i64.wrap (m : Int) = (m : Int) := by rw [IntKind.wrap_i64]; omega
      have hm0 : (0 : Int) ≤ (m : Int) := by omega
      have hmL : (m : Int) < (l.length : Int) := by omega
      clear hmm
      go_wp2_with fail
      rw [HMI.out]
      go_region_held3 (fun w' => ((w'.cell? (ad.add (m * 3)) = some (.string (bstr y.item)) ∧ w'.cell? ⟨(ad.add (m * 3)).block, (ad.add (m * 3)).off + 1, none⟩ = some (.string (bstr y.site))) ∧ w'.cell? ⟨(ad.add (m * 3)).block, (ad.add (m * 3)).off + 2, none⟩ = some (.string (bstr y.digest))) ∧ (w'.cell? ⟨w.heap.size, 0, none⟩ = some (.string (bstr h.item)) ∧ w'.cell? ⟨w.heap.size, 1, none⟩ = some (.string (bstr h.site))) ∧ w'.cell? ⟨w.heap.size, 2, none⟩ = some (.string (bstr h.digest))) (first | exact ⟨⟨⟨p0, p1⟩, p2⟩, ⟨q0, q1⟩, q2⟩ | (refine ⟨⟨⟨?_, ?_⟩, ?_⟩, ⟨?_, ?_⟩, ?_⟩ <;> repeat' (first | (with_reducible exact p0) | (with_reducible exact p1) | (with_reducible exact p2) | (with_reducible exact q0) | (with_reducible exact q1) | (with_reducible exact q2) | (with_reducible refine cell_alloc1 _ ?_) | (with_reducible refine cell_drew1 ?_)))) (first
        | (go_at_call 41; with_reducible refine (compareHeldL_any y h _).mono ?_; rintro e w8 ⟨rfl, hb8⟩; have HB8 : Hid (Below w.heap.size w w8) := Lib.hid (Below.trans (by repeat' (first | (with_reducible exact HB.out) | (with_reducible refine Below.drew ?_))) (hb8.mono (by have := HB.out.size; simpa using this))); have HW8 : Hid (Below wr.heap.size wr w8) := Lib.hid (Below.trans (by repeat' (first | (with_reducible exact Below.refl _ _) | (with_reducible refine Below.drew ?_))) (hb8.mono (by simp))); have p0 : w8.cell? (ad.add (m * 3)) = some (.string (bstr y.item)) := (hb8.cell (by simpa using hpb)).trans (by repeat' (first | (with_reducible exact p0) | (with_reducible refine cell_drew1 ?_))); have p1 : w8.cell? ⟨(ad.add (m * 3)).block, (ad.add (m * 3)).off + 1, none⟩ = some (.string (bstr y.site)) := (hb8.cell (by simpa using hpb)).trans (by repeat' (first | (with_reducible exact p1) | (with_reducible refine cell_drew1 ?_))); have p2 : w8.cell? ⟨(ad.add (m * 3)).block, (ad.add (m * 3)).off + 2, none⟩ = some (.string (bstr y.digest)) := (hb8.cell (by simpa using hpb)).trans (by repeat' (first | (with_reducible exact p2) | (with_reducible refine cell_drew1 ?_))); have q0 : w8.cell? ⟨w.heap.size, 0, none⟩ = some (.string (bstr h.item)) := (hb8.cell (by simpa using hqb)).trans (by repeat' (first | (with_reducible exact q0) | (with_reducible refine cell_drew1 ?_))); have q1 : w8.cell? ⟨w.heap.size, 1, none⟩ = some (.string (bstr h.site)) := (hb8.cell (by simpa using hqb)).trans (by repeat' (first | (with_reducible exact q1) | (with_reducible refine cell_drew1 ?_))); have q2 : w8.cell? ⟨w.heap.size, 2, none⟩ = some (.string (bstr h.digest)) := (hb8.cell (by simpa using hqb)).trans (by repeat' (first | (with_reducible exact q2) | (with_reducible refine cell_drew1 ?_))); clear hb8))
      all_goals
        clear p0 p1 p2 q0 q1 q2 hpb
        have HK8 := Lib.hid (HK.out.same (same_below HW8.out) hqb)
        clear HK HB HW8
        by_cases hy : heldCmp y h < 0
        · rw [decide_eq_true hy]
          have HL2 := Lib.hid (HLO.out hy)
          clear hy HLO HHI
          go_wp2_with fail
          go_roundw
          case rel => exact ⟨m + 1, j, by omega, by omega, by go_num, rfl, HL2.out, HJ.out, HB8.out, HK8.out⟩
          case measure => simp [intOf]; omega
        · rw [decide_eq_false hy]
          have HL2 := Lib.hid (HHI.out (by omega))
          clear hy HLO HHI
          go_wp2_with fail
          go_roundw
          case rel => exact ⟨i, m, by omega, by omega, rfl, rfl, HI.out, HL2.out, HB8.out, HK8.out⟩
          case measure => simp [intOf]; omega
    · obtain rfl : i = j := by omega
      have hlb := lbN_at l h i hjl HI.out (fun hl => Int.not_lt.2 (HJ.out i (Nat.le_refl _) hl))
      have HLB := Lib.hid hlb
      clear hlb HI HJ
      by_cases hin : i < l.length
      · obtain ⟨ad, c', e1, hadb, p0, p1, p2, hy1, hy2, hy3⟩ := held_at (Rp.below _ H0.out HB.out) hin
        cases e1
        have hpb : (ad.add (i * 3)).block < wr.heap.size := by rw [add_block]; have := HB.out.size; have hadb' : ad.block < w.heap.size := hadb; omega
        have HHT : Hid (hitL l h = decide (heldCmp l[i] h = 0)) := Lib.hid (by unfold hitL; rw [HLB.out, decide_eq_true hin, getD_at _ _ hin]; rfl)
        clear hadb
        generalize l[i] = y at *
        have rak : IntKind.i64.wrap (i : Int) = (i : Int) := by rw [IntKind.wrap_i64]; omega
        have hm0 : (0 : Int) ≤ (i : Int) := by omega
        have hmL : (i : Int) < (l.length : Int) := by omega
        go_wp2_with fail
        go_region_held3 (fun w' => ((w'.cell? (ad.add (i * 3)) = some (.string (bstr y.item)) ∧ w'.cell? ⟨(ad.add (i * 3)).block, (ad.add (i * 3)).off + 1, none⟩ = some (.string (bstr y.site))) ∧ w'.cell? ⟨(ad.add (i * 3)).block, (ad.add (i * 3)).off + 2, none⟩ = some (.string (bstr y.digest))) ∧ (w'.cell? ⟨w.heap.size, 0, none⟩ = some (.string (bstr h.item)) ∧ w'.cell? ⟨w.heap.size, 1, none⟩ = some (.string (bstr h.site))) ∧ w'.cell? ⟨w.heap.size, 2, none⟩ = some (.string (bstr h.digest))) (first | exact ⟨⟨⟨p0, p1⟩, p2⟩, ⟨q0, q1⟩, q2⟩ | (refine ⟨⟨⟨?_, ?_⟩, ?_⟩, ⟨?_, ?_⟩, ?_⟩ <;> repeat' (first | (with_reducible exact p0) | (with_reducible exact p1) | (with_reducible exact p2) | (with_reducible exact q0) | (with_reducible exact q1) | (with_reducible exact q2) | (with_reducible refine cell_alloc1 _ ?_) | (with_reducible refine cell_drew1 ?_)))) (first
          | (go_at_call 41; with_reducible refine (compareHeldL_any y h _).mono ?_; rintro e w8 ⟨rfl, hb8⟩; have HB8 : Hid (Below w.heap.size w w8) := Lib.hid (Below.trans (by repeat' (first | (with_reducible exact HB.out) | (with_reducible refine Below.drew ?_))) (hb8.mono (by have := HB.out.size; simpa using this))); have HW8 : Hid (Below wr.heap.size wr w8) := Lib.hid (Below.trans (by repeat' (first | (with_reducible exact Below.refl _ _) | (with_reducible refine Below.drew ?_))) (hb8.mono (by simp))); have p0 : w8.cell? (ad.add (i * 3)) = some (.string (bstr y.item)) := (hb8.cell (by simpa using hpb)).trans (by repeat' (first | (with_reducible exact p0) | (with_reducible refine cell_drew1 ?_))); have p1 : w8.cell? ⟨(ad.add (i * 3)).block, (ad.add (i * 3)).off + 1, none⟩ = some (.string (bstr y.site)) := (hb8.cell (by simpa using hpb)).trans (by repeat' (first | (with_reducible exact p1) | (with_reducible refine cell_drew1 ?_))); have p2 : w8.cell? ⟨(ad.add (i * 3)).block, (ad.add (i * 3)).off + 2, none⟩ = some (.string (bstr y.digest)) := (hb8.cell (by simpa using hpb)).trans (by repeat' (first | (with_reducible exact p2) | (with_reducible refine cell_drew1 ?_))); have q0 : w8.cell? ⟨w.heap.size, 0, none⟩ = some (.string (bstr h.item)) := (hb8.cell (by simpa using hqb)).trans (by repeat' (first | (with_reducible exact q0) | (with_reducible refine cell_drew1 ?_))); have q1 : w8.cell? ⟨w.heap.size, 1, none⟩ = some (.string (bstr h.site)) := (hb8.cell (by simpa using hqb)).trans (by repeat' (first | (with_reducible exact q1) | (with_reducible refine cell_drew1 ?_))); have q2 : w8.cell? ⟨w.heap.size, 2, none⟩ = some (.string (bstr h.digest)) := (hb8.cell (by simpa using hqb)).trans (by repeat' (first | (with_reducible exact q2) | (with_reducible refine cell_drew1 ?_))); clear hb8))
        all_goals
          clear p0 p1 p2 q0 q1 q2 hpb
          have HE : Hid ((heldCmp y h == 0) = hitL l h) := Lib.hid (by rw [HHT.out]; rfl)
          rw [HE.out]
          go_wp2_with fail
          go_ret2
          exact ⟨by rw [HLB.out]; rfl, HB8.out⟩
      · have HHT : Hid (hitL l h = false) := Lib.hid (by unfold hitL; rw [HLB.out, decide_eq_false hin]; rfl)
        have hmL : ¬ (i : Int) < (l.length : Int) := by omega
        clear q0 q1 q2
        go_wp2_with fail
        go_quiet (fail)
        have HBX := Lib.hid (below_drewN HB.out nq)
        go_wp2_with fail
        go_ret2
        exact ⟨by rw [HLB.out, HHT.out]; rfl, HBX.out⟩
set_option maxRecDepth 100000 in
set_option maxHeartbeats 2000000 in
theorem copyAt_any (v : Value) (l : List Held) (item site : List UInt8) (w : World) (h0 : (Rp.sl heldRp).ok w (· < w.heap.size) [v] l) (hs : HSorted l) (hm : l.length ≤ 1000000) :
    Calls Tryz.prog 38 #[v, .string (bstr item), .string (bstr site)] w fun e w' => e = .returned (.string (bstr (heldL item site l))) ∧ Below w.heap.size w w' := by
  obtain ⟨A, c, rfl, hl, hc, _⟩ := Rp.sl_open h0
  unfold maxLen at hc
  have H0 := Lib.hid h0
  have HH := Lib.hid (hit_held l ⟨item, site, []⟩ hs)
  have HS0 := Lib.hid hs
  clear h0 hs
  go_enter Tryz.func38, Tryz.ntmps38
  go_wp2_with fail
  refine (bsHeld_any _ l ⟨item, site, []⟩ w H0.out HS0.out hm).mono ?_
  rintro e w1 ⟨rfl, hb1⟩
  have HB1 := Lib.hid hb1
  clear hb1
  cases hq : hitL l ⟨item, site, []⟩ with
  | false =>
    have HF : Hid (heldL item site l = []) := Lib.hid (by have := HH.out; rw [hq] at this; exact this)
    clear HH hq
    go_wp2_with fail
    go_ret
    exact ⟨by rw [HF.out]; rfl, HB1.out⟩
  | true =>
    have hlt : lbN l ⟨item, site, []⟩ < l.length := by
      unfold hitL at hq
      rw [Bool.and_eq_true] at hq
      exact of_decide_eq_true hq.1
    have HF : Hid (heldL item site l = l[lbN l ⟨item, site, []⟩].digest) := Lib.hid (by have := HH.out; rw [hq, getD_at _ _ hlt] at this; exact this)
    generalize lbN l ⟨item, site, []⟩ = k at *
    obtain ⟨ad, c', e1, hadb, p0, p1, p2, hy1, hy2, hy3⟩ := held_at (Rp.ext _ H0.out HB1.out) hlt
    cases e1
    clear hadb HH hq
    generalize l[k] = y at *
    have hm0 : (0 : Int) ≤ (k : Int) := by omega
    have hmL : (k : Int) < (l.length : Int) := by omega
    go_wp2_with fail
    go_ret
    exact ⟨by rw [HF.out]; rfl, HB1.out⟩
end Go.Proofs.YtnkdcmibafjplaaGreatDoor
