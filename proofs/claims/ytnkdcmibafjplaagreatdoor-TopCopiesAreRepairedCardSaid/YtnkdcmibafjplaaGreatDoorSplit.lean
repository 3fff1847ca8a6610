/-
  'strings.Split' at '/': the library's contract at this program; 'isPath' of care.
-/
import Derived.Test.YtnkdcmibafjplaaGreatDoorProg
import Derived.Test.YtnkdcmibafjplaaGreatDoorSplitA
import Derived.Test.YtnkdcmibafjplaaGreatDoorRow
import Derived.Test.YtnkdcmibafjplaaGreatDoorRows11
namespace Go.Proofs.YtnkdcmibafjplaaGreatDoor
open Go.RowKit Go.Shelf
set_option linter.unusedVariables false
set_option linter.unusedSimpArgs false

/-- The parts of a path. -/
def segs (t : List UInt8) : List ByteArray := Lib.splitB ⟨#[47]⟩ 0 (Lib.countB (bstr t) ⟨#[47]⟩) (bstr t)
theorem segs_len (t : List UInt8) : (segs t).length = Lib.countB (bstr t) ⟨#[47]⟩ + 1 := Lib.splitB_all ⟨#[47]⟩ (by decide) 0 _ (bstr t) rfl
def segBad (s : ByteArray) : Bool := s.toList.isEmpty || (s.toList == [46] || s.toList == [46, 46])
def isPathB (t : List UInt8) : Bool := isRowB t 2100 && (segs t).all fun s => !segBad s
theorem split_any (t : List UInt8) (w : World) (hG : GInt w) (ht : t.length ≤ 100000) :
    Calls Tryz.prog 111 #[.string (bstr t), .string ⟨#[47]⟩] w fun e w' => e = .returned (.slice (some ⟨w.heap.size, 0, none⟩) (segs t).length (segs t).length) ∧ w' = w.alloc (.cells ((segs t).map Value.string).toArray 9) := by
  obtain ⟨m, hm⟩ := hG
  rw [segs_len]
  exact Any.strings_Split splitLays string_info (bstr t) ⟨#[47]⟩ m w (by rw [bstr_size]; omega) hm (by decide)
theorem seg_cell (l : List ByteArray) (w : World) (k : Nat) (h : k < l.length) : (w.alloc (.cells (l.map Value.string).toArray 9)).cell? ((⟨w.heap.size, 0, none⟩ : Addr).add k) = some (.string l[k]) := by
  have hadd : (⟨w.heap.size, 0, none⟩ : Addr).add k = ⟨w.heap.size, k, none⟩ := by unfold Addr.add; split <;> simp_all
  rw [hadd, cell_of_row _ _ k _ 9 (0, 0) (heap_alloc_new w _)]
  simp [h]
theorem segs_bad {l : List ByteArray} {k : Nat} (h : k < l.length) (hb : segBad l[k] = true) : (l.all fun s => !segBad s) = false := by
  cases hall : l.all fun s => !segBad s with
  | false => rfl
  | true =>
    have := List.all_eq_true.1 hall l[k] (List.getElem_mem h)
    rw [hb] at this
    cases this
set_option maxRecDepth 100000 in
set_option maxHeartbeats 1000000 in
theorem isPath_any (t : List UInt8) (w : World) (hG : GInt w) (ht : t.length ≤ 9223372036854775807) :
    Calls Tryz.prog 67 #[.string (bstr t)] w fun e w' => e = .returned (.bool (isPathB t)) ∧ Below w.heap.size w w' := by
  have hc := isRow_any t 2100 w ht
  cases hr : isRowB t 2100 with
  | false =>
    have HF : Hid (isPathB t = false) := Lib.hid (by rw [isPathB, hr]; rfl)
    rw [hr] at hc
    go_enter Tryz.func67, Tryz.ntmps67
    go_wp2_with fail
    refine hc.mono ?_
    rintro e w1 ⟨rfl, rfl⟩
    clear hc
    go_wp2_with fail
    go_ret
    exact ⟨by rw [HF.out]; rfl, Below.refl _ _⟩
  | true =>
    have hlen := isRowB_len hr
    have HF : Hid (isPathB t = (segs t).all fun s => !segBad s) := Lib.hid (by rw [isPathB, hr]; rfl)
    rw [hr] at hc
    have HG := Lib.hid hG
    clear hG
    go_enter Tryz.func67, Tryz.ntmps67
    go_wp2_with fail
    refine hc.mono ?_
    rintro e w1 ⟨rfl, rfl⟩
    clear hc
    go_wp2_with fail
    refine (split_any t w HG.out (by omega)).mono ?_
    rintro e w2 ⟨rfl, hw2⟩
    have hb2 : Below w.heap.size w w2 := by rw [hw2]; exact (Below.refl _ w).alloc (Nat.le_refl _) _
    have HB2 := Lib.hid hb2
    have hlt : (segs t).length ≤ 9223372036854775000 := by
      have := segs_len t
      have := Lib.countB_le ⟨#[47]⟩ (by decide) (bstr t).size (bstr t) (Nat.le_refl _)
      rw [bstr_size] at this
      omega
    generalize segs t = l at *
    have HC := Lib.hid (fun k h => by have := seg_cell l w k h; rw [← hw2] at this; exact this : ∀ k, (h : k < l.length) → w2.cell? ((⟨w.heap.size, 0, none⟩ : Addr).add k) = some (.string l[k]))
    obtain ⟨ad, had⟩ : ∃ ad : Addr, ad = ⟨w.heap.size, 0, none⟩ := ⟨_, rfl⟩
    rw [← had] at HC ⊢
    clear hb2 hw2 had
    go_wp2_with fail
    go_loopw [11] (fun i wr => ∃ k : Nat, k ≤ l.length ∧ i = .int .i64 k ∧ Hid (∀ s ∈ l.take k, segBad s = false) ∧ wr = w2) (fun i _ => l.length - (intOf i).toNat)
    case atStart => exact ⟨0, by omega, rfl, Lib.hid (fun s hs => by simp at hs), rfl⟩
    case round =>
      obtain ⟨k, hk, rfl, HS, rfl⟩ := hrel
      by_cases hlt : k < l.length
      · have hcell := HC.out k hlt
        cases b1 : l[k].toList.isEmpty with
        | true =>
          have HF2 : Hid (isPathB t = false) := Lib.hid (by rw [HF.out]; exact segs_bad hlt (by rw [segBad, b1]; rfl))
          generalize l[k] = s at *
          go_wp2_with fail
          go_ret
          exact ⟨by rw [HF2.out]; rfl, HB2.out⟩
        | false =>
        cases b2 : l[k].toList == [46] with
        | true =>
          have HF2 : Hid (isPathB t = false) := Lib.hid (by rw [HF.out]; exact segs_bad hlt (by rw [segBad, b1, b2]; rfl))
          generalize l[k] = s at *
          go_wp2_with fail
          go_ret
          exact ⟨by rw [HF2.out]; rfl, HB2.out⟩
        | false =>
        cases b3 : l[k].toList == [46, 46] with
        | true =>
          have HF2 : Hid (isPathB t = false) := Lib.hid (by rw [HF.out]; exact segs_bad hlt (by rw [segBad, b1, b2, b3]; rfl))
          generalize l[k] = s at *
          go_wp2_with fail
          go_ret
          exact ⟨by rw [HF2.out]; rfl, HB2.out⟩
        | false =>
          have HS2 : Hid (∀ s ∈ l.take (k + 1), segBad s = false) := Lib.hid (fun s hs => by
            rw [List.take_succ_eq_append_getElem hlt, List.mem_append, List.mem_singleton] at hs
            rcases hs with hs | rfl
            · exact HS.out s hs
            · rw [segBad, b1, b2, b3]; rfl)
          generalize l[k] = s at *
          go_wp2_with fail
          go_roundw
          case rel => exact ⟨k + 1, by omega, by go_num, HS2, trivial⟩
          case measure => simp [intOf]; omega
      · have HF2 : Hid (isPathB t = true) := Lib.hid (by
          rw [HF.out, List.all_eq_true]
          intro s hs
          rw [HS.out s (by rw [List.take_of_length_le (by omega)]; exact hs)]; rfl)
        go_wp2_with fail
        go_ret
        exact ⟨by rw [HF2.out]; rfl, HB2.out⟩
end Go.Proofs.YtnkdcmibafjplaaGreatDoor
