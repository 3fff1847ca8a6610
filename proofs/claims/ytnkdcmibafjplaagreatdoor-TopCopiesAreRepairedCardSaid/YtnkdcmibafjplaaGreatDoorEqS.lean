/-
  'slices.Equal' at the element types of this seat: true just if both slices read as the same list. It only reads.
-/
import Derived.Test.YtnkdcmibafjplaaGreatDoorProg
import Derived.Test.YtnkdcmibafjplaaGreatDoorBase
namespace Go.Proofs.YtnkdcmibafjplaaGreatDoor
open Go.RowKit
set_option linter.unusedVariables false
set_option linter.unusedSimpArgs false

theorem take_eq_succ {α : Type} {a b : List α} {k : Nat} (h : a.take k = b.take k) (ha : k < a.length) (hb : k < b.length) (he : a[k] = b[k]) : a.take (k + 1) = b.take (k + 1) := by
  rw [List.take_succ_eq_append_getElem ha, List.take_succ_eq_append_getElem hb, h, he]
theorem ne_of_get {α : Type} {a b : List α} {k : Nat} (ha : k < a.length) (hb : k < b.length) (he : a[k] ≠ b[k]) : a ≠ b := by
  rintro rfl; exact he rfl
theorem Rp.pair_int {w : World} {S : Nat → Prop} {us : List Value} {p : Int × Int} (h : (Rp.pair (Rp.int .i64) (Rp.int .i64)).ok w S us p) : us = [.int .i64 p.1, .int .i64 p.2] := by
  obtain ⟨c, d, rfl, ⟨rfl, _⟩, ⟨rfl, _⟩⟩ := h
  rfl
theorem eq_of_takes {α : Type} {a b : List α} {k : Nat} (h : a.take k = b.take k) (ha : a.length ≤ k) (hl : a.length = b.length) : a = b := by
  rw [List.take_of_length_le ha, List.take_of_length_le (by omega)] at h; exact h

set_option maxRecDepth 100000 in
set_option maxHeartbeats 400000 in
theorem eqInt_any (v1 v2 : Value) (a b : List Int) (w : World) (S T : Nat → Prop) (h1 : (Rp.sl (Rp.int .i64)).ok w S [v1] a) (h2 : (Rp.sl (Rp.int .i64)).ok w T [v2] b) :
    Calls Tryz.prog 9 #[v1, v2] w fun e w' => e = .returned (.bool (decide (a = b))) ∧ ∃ n, w' = w.drewN n := by
  obtain ⟨A, c, rfl, hl1, hc1, _⟩ := Rp.sl_open h1
  obtain ⟨B, d, rfl, hl2, hc2, _⟩ := Rp.sl_open h2
  unfold maxLen at hc1 hc2
  by_cases hlen : a.length = b.length
  · have hab : ((a.length : Int) != (b.length : Int)) = false := by simp [hlen]
    have HL := Lib.hid hlen
    clear hlen
    go_enter Tryz.func9, Tryz.ntmps9
    go_wp2
    go_loopw [13] (fun i wr => ∃ k n : Nat, k ≤ a.length ∧ i = .int .i64 k ∧ Hid (a.take k = b.take k) ∧ wr = w.drewN n) (fun i _ => a.length - (intOf i).toNat)
    case atStart => exact ⟨0, 0, Nat.zero_le _, rfl, rfl, rfl⟩
    case round =>
      obtain ⟨k, n, hk, rfl, HT, rfl⟩ := hrel
      by_cases hlt : k < a.length
      · have hlb : k < b.length := by rw [← HL.out]; exact hlt
        obtain ⟨ad1, u1, rfl, _, hu1, hcell1⟩ := Rp.sl_at1 rfl h1 hlt
        obtain ⟨ad2, u2, rfl, _, hu2, hcell2⟩ := Rp.sl_at1 rfl h2 hlb
        obtain ⟨e1, _⟩ := hu1; obtain ⟨e2, _⟩ := hu2; injection e1 with e1; injection e2 with e2; subst e1 e2
        clear h1 h2 hab
        by_cases he : a[k] = b[k]
        · have hb : (a[k] != b[k]) = false := by simp [he]
          have HE := Lib.hid he
          clear he
          go_wp2
          go_region
          all_goals go_wp2
          all_goals go_roundw
          all_goals first
            | exact ⟨k + 1, _, by omega, by go_num, take_eq_succ HT.out hlt hlb HE.out, rfl⟩
            | (simp [intOf]; omega)
        · have hb : (a[k] != b[k]) = true := by simp [he]
          have hd : decide (a = b) = false := decide_eq_false (ne_of_get hlt hlb he)
          clear he
          go_wp2
          go_region
          all_goals go_wp2
          all_goals go_ret
          all_goals exact ⟨by rw [hd]; rfl, _, rfl⟩
      · have hd : decide (a = b) = true := decide_eq_true (eq_of_takes HT.out (by omega) HL.out)
        clear h1 h2 hab
        go_wp2
        go_ret
        exact ⟨by rw [hd]; rfl, _, rfl⟩
  · have hab : ((a.length : Int) != (b.length : Int)) = true := by simp; omega
    have hd : decide (a = b) = false := decide_eq_false (by rintro rfl; exact hlen rfl)
    clear hlen
    go_enter Tryz.func9, Tryz.ntmps9
    go_wp2
    go_ret
    exact ⟨by rw [hd]; rfl, 0, rfl⟩

end Go.Proofs.YtnkdcmibafjplaaGreatDoor
