/-
  'isPath' of the reference: it splits ahead of the check of the length.
-/
import Derived.Test.YtgfacedfndcgdaaGreatDoorProg
import Derived.Test.YtgfacedfndcgdaaGreatDoorSplit
namespace Go.Proofs.YtgfacedfndcgdaaGreatDoor
open Go.RowKit
set_option linter.unusedVariables false
set_option linter.unusedSimpArgs false

theorem split_any2 (t : List UInt8) (w : World) (hG : GInt w) (ht : t.length ≤ 10000000) :
    Calls Tryz.prog 39 #[.string (bstr t), .string ⟨#[47]⟩] w fun e w' => e = .returned (.slice (some ⟨w.heap.size, 0, none⟩) (segs t).length (segs t).length) ∧ w' = w.alloc (.cells ((segs t).map Value.string).toArray 9) := by
  obtain ⟨m, hm⟩ := hG
  rw [segs_len]
  exact Any.strings_Split splitLays string_info (bstr t) ⟨#[47]⟩ m w (by rw [bstr_size]; omega) hm (by decide)
set_option maxRecDepth 100000 in
set_option maxHeartbeats 1000000 in
theorem refIsPath_any (t : List UInt8) (w : World) (hG : GInt w) (ht : t.length ≤ 10000000) :
    Calls Tryz.prog 50 #[.string (bstr t)] w fun e w' => e = .returned (.bool (isPathB t)) ∧ Below w.heap.size w w' := by
  have HF : Hid (isPathB t = (((segs t).all fun s => !segBad s) && isRowB t 2100)) := Lib.hid (by rw [isPathB, Bool.and_comm])
  have HR := Lib.hid (fun w' => refIsRow_any t 2100 w' (by omega))
  have HG := Lib.hid hG
  clear hG
  go_enter Tryz.func50, Tryz.ntmps50
  go_wp2_with fail
  refine (split_any2 t w HG.out (by omega)).mono ?_
  rintro e w2 ⟨rfl, hw2⟩
  have hb2 : Below w.heap.size w w2 := by rw [hw2]; exact (Below.refl _ w).alloc (Nat.le_refl _) _
  have HB2 := Lib.hid hb2
  have hlt : (segs t).length ≤ 9223372036854775000 := by
    have := segs_len t
    have := Lib.countB_le ⟨#[47]⟩ (by decide) (bstr t).size (bstr t) (Nat.le_refl _)
    rw [bstr_size] at this
    omega
  generalize segs t = l at *
  have HC := Lib.hid (fun k h => by have := seg_cell l w k h; rw [← hw2] at this; exact this : ∀ k, (h : k < l.length) → w2.cell? ((⟨w.heap.size, 0, none⟩ : Addr).add k) = some (.string l[k]))
  obtain ⟨ad, had⟩ : ∃ ad : Addr, ad = ⟨w.heap.size, 0, none⟩ := ⟨_, rfl⟩
  rw [← had] at HC ⊢
  clear hb2 hw2 had
  go_wp2_with fail
  go_loopw [8] (fun i wr => ∃ k : Nat, k ≤ l.length ∧ i = .int .i64 k ∧ Hid (∀ s ∈ l.take k, segBad s = false) ∧ wr = w2) (fun i _ => l.length - (intOf i).toNat)
  case atStart => exact ⟨0, by omega, rfl, Lib.hid (fun s hs => by simp at hs), rfl⟩
  case round =>
    obtain ⟨k, hk, rfl, HS, rfl⟩ := hrel
    by_cases hlt : k < l.length
    · have hcell := HC.out k hlt
      cases b1 : l[k].toList.isEmpty with
      | true =>
        have HF2 : Hid (isPathB t = false) := Lib.hid (by rw [HF.out, segs_bad hlt (by rw [segBad, b1]; rfl)]; rfl)
        generalize l[k] = s at *
        go_wp2_with fail
        go_ret
        exact ⟨by rw [HF2.out]; rfl, HB2.out⟩
      | false =>
      cases b2 : l[k].toList == [46] with
      | true =>
        have HF2 : Hid (isPathB t = false) := Lib.hid (by rw [HF.out, segs_bad hlt (by rw [segBad, b1, b2]; rfl)]; rfl)
        generalize l[k] = s at *
        go_wp2_with fail
        go_ret
        exact ⟨by rw [HF2.out]; rfl, HB2.out⟩
      | false =>
      cases b3 : l[k].toList == [46, 46] with
      | true =>
        have HF2 : Hid (isPathB t = false) := Lib.hid (by rw [HF.out, segs_bad hlt (by rw [segBad, b1, b2, b3]; rfl)]; rfl)
        generalize l[k] = s at *
        go_wp2_with fail
        go_ret
        exact ⟨by rw [HF2.out]; rfl, HB2.out⟩
      | false =>
        have HS2 : Hid (∀ s ∈ l.take (k + 1), segBad s = false) := Lib.hid (fun s hs => by
          rw [List.take_succ_eq_append_getElem hlt, List.mem_append, List.mem_singleton] at hs
          rcases hs with hs | rfl
          · exact HS.out s hs
          · rw [segBad, b1, b2, b3]; rfl)
        generalize l[k] = s at *
        go_wp2_with fail
        go_roundw
        case rel => exact ⟨k + 1, by omega, by go_num, HS2, trivial⟩
        case measure => simp [intOf]; omega
    · have HF2 : Hid (isPathB t = isRowB t 2100) := Lib.hid (by
        have : (l.all fun s => !segBad s) = true := by
          rw [List.all_eq_true]
          intro s hs
          rw [HS.out s (by rw [List.take_of_length_le (by omega)]; exact hs)]; rfl
        rw [HF.out, this, Bool.true_and])
      go_wp2_with fail
      refine (HR.out _).mono ?_
      rintro e w3 ⟨rfl, rfl⟩
      go_wp2_with fail
      go_ret
      exact ⟨by rw [HF2.out]; rfl, HB2.out⟩
end Go.Proofs.YtgfacedfndcgdaaGreatDoor
