/-
  Rows of bytes from 33 to 126, digests: 'isRow', 'isNonce', 'isDigest', 'digest' of both packages.
-/
import Derived.Test.YtpmonhilfpfiaaaGreatDoorProg
import Derived.Test.YtpmonhilfpfiaaaGreatDoorTrim
import Derived.Test.YtpmonhilfpfiaaaGreatDoorDigC
import Derived.Test.YtpmonhilfpfiaaaGreatDoorStr
namespace Go.Proofs.YtpmonhilfpfiaaaGreatDoor
open Go.RowKit
set_option linter.unusedVariables false
set_option linter.unusedSimpArgs false

def rowByte (b : UInt8) : Bool := decide (33 ≤ b.toNat) && decide (b.toNat ≤ 126)
def isRowB (t : List UInt8) (m : Int) : Bool := t.all rowByte && (decide (1 ≤ t.length) && decide ((t.length : Int) ≤ m))
theorem rowByte_no {b : UInt8} (h : b.toNat < 33 ∨ 126 < b.toNat) : rowByte b = false := by
  unfold rowByte
  rcases h with h | h
  · rw [decide_eq_false (by omega)]; rfl
  · rw [decide_eq_false (p := b.toNat ≤ 126) (by omega), Bool.and_false]
theorem rowByte_yes {b : UInt8} (h1 : ¬ b.toNat < 33) (h2 : ¬ 126 < b.toNat) : rowByte b = true := by
  unfold rowByte
  rw [decide_eq_true (by omega), decide_eq_true (by omega)]; rfl
theorem all_no {t : List UInt8} {p : UInt8 → Bool} {k : Nat} (hk : k < t.length) (h : p t[k] = false) : t.all p = false := by
  rw [List.all_eq_false]; exact ⟨_, List.getElem_mem hk, by rw [h]; decide⟩
theorem all_yes {t : List UInt8} {p : UInt8 → Bool} {k : Nat} (h : (t.take k).all p = true) (hk : k < t.length) (hb : p t[k] = true) : (t.take (k + 1)).all p = true := by
  rw [List.take_succ_eq_append_getElem hk, List.all_append, h]; simpa using hb
def hexSet : List UInt8 := [48, 49, 50, 51, 52, 53, 54, 55, 56, 57, 97, 98, 99, 100, 101, 102]
def isDig (t : List UInt8) : Bool := decide (t.length = 16) && t.all (hexSet.contains ·)
theorem isDig_len {t : List UInt8} (h : isDig t = true) : t.length = 16 := by
  unfold isDig at h
  rw [Bool.and_eq_true, decide_eq_true_eq] at h; exact h.1
theorem isRowB_len {t : List UInt8} {m : Int} (h : isRowB t m = true) : 1 ≤ t.length ∧ (t.length : Int) ≤ m := by
  unfold isRowB at h
  rw [Bool.and_eq_true, Bool.and_eq_true, decide_eq_true_eq, decide_eq_true_eq] at h; exact h.2
/-- The digest of bytes, in bytes. -/
def digL (t : List UInt8) : List UInt8 := hexL (fnv t) 16
theorem digL_len (t : List UInt8) : (digL t).length = 16 := hexL_len _ _
set_option maxRecDepth 100000 in
set_option maxHeartbeats 400000 in
theorem isRow_any (t : List UInt8) (m : Int) (w : World) (ht : t.length ≤ 9223372036854775807) :
    Calls Tryz.prog 69 #[.string (bstr t), .int .i64 m] w fun e w' => e = .returned (.bool (isRowB t m)) ∧ w = w' := by
  have hsz : (bstr t).size = t.length := rfl
  go_enter Tryz.func69, Tryz.ntmps69
  go_wp2
  go_loop [8] (fun i => ∃ k : Nat, k ≤ t.length ∧ i = .int .i64 k ∧ Hid ((t.take k).all rowByte = true)) (fun i => t.length - (intOf i).toNat)
  case atStart => exact ⟨0, by omega, rfl, rfl⟩
  case round =>
    obtain ⟨k, hk, rfl, HT⟩ := hrel
    by_cases hlt : k < t.length
    · have hg : (bstr t)[k]'(by rw [hsz]; exact hlt) = t[k] := rfl
      by_cases h1 : t[k].toNat < 33
      · have HF : Hid (isRowB t m = false) := Lib.hid (by rw [isRowB, all_no hlt (rowByte_no (.inl h1))]; rfl)
        have hb : (((bstr t)[k]'(by rw [hsz]; exact hlt)).toNat : Int) < 33 := by rw [hg]; omega
        clear hg h1
        go_wp2
        go_ret
        exact ⟨by rw [HF.out]; rfl, rfl⟩
      have hb : ¬ (((bstr t)[k]'(by rw [hsz]; exact hlt)).toNat : Int) < 33 := by rw [hg]; omega
      by_cases h2 : 126 < t[k].toNat
      · have HF : Hid (isRowB t m = false) := Lib.hid (by rw [isRowB, all_no hlt (rowByte_no (.inr h2))]; rfl)
        have hb2 : (126 : Int) < (((bstr t)[k]'(by rw [hsz]; exact hlt)).toNat : Int) := by rw [hg]; omega
        clear hg h1 h2
        go_wp2
        go_ret
        exact ⟨by rw [HF.out]; rfl, rfl⟩
      · have hb2 : ¬ (126 : Int) < (((bstr t)[k]'(by rw [hsz]; exact hlt)).toNat : Int) := by rw [hg]; omega
        have HT2 := Lib.hid (all_yes HT.out hlt (rowByte_yes h1 h2))
        clear hg h1 h2
        go_wp2
        go_round
        case rel => exact ⟨k + 1, by omega, by go_num, HT2⟩
        case measure => simp [intOf]; omega
    · obtain rfl : k = t.length := by omega
      rw [List.take_length] at HT
      by_cases h1 : 1 ≤ t.length
      · have h1' : (1 : Int) ≤ (t.length : Int) := by omega
        by_cases h2 : (t.length : Int) ≤ m
        · have HF : Hid (isRowB t m = true) := Lib.hid (by rw [isRowB, HT.out, decide_eq_true h1, decide_eq_true h2]; rfl)
          go_wp2
          go_ret
          exact ⟨by rw [HF.out]; rfl, rfl⟩
        · have HF : Hid (isRowB t m = false) := Lib.hid (by rw [isRowB, decide_eq_false h2, Bool.and_false, Bool.and_false])
          go_wp2
          go_ret
          exact ⟨by rw [HF.out]; rfl, rfl⟩
      · have h1' : ¬ (1 : Int) ≤ (t.length : Int) := by omega
        have HF : Hid (isRowB t m = false) := Lib.hid (by rw [isRowB, decide_eq_false h1, Bool.false_and, Bool.and_false])
        go_wp2
        go_ret
        exact ⟨by rw [HF.out]; rfl, rfl⟩
set_option maxRecDepth 100000 in
set_option maxHeartbeats 400000 in
theorem isDigest_any (t : List UInt8) (w : World) (ht : t.length ≤ 9223372036854775807) :
    Calls Tryz.prog 47 #[.string (bstr t)] w fun e w' => e = .returned (.bool (isDig t)) ∧ Below w.heap.size w w' := by
  have hsz : (bstr t).size = t.length := rfl
  by_cases h16 : t.length = 16
  · have hb : ((t.length : Int) == 16) = true := by simp [h16]
    have HF : Hid (isDig t = t.all (hexSet.contains ·)) := Lib.hid (by rw [isDig, decide_eq_true h16, Bool.true_and])
    have hc := trim_any t hexSet w ht (by decide) (by decide)
    have HE := Lib.hid (trim_isEmpty t hexSet)
    clear h16
    go_enter Tryz.func47, Tryz.ntmps47
    go_wp2_with fail
    refine hc.mono ?_
    rintro e w1 ⟨rfl, hbl⟩
    have HB := Lib.hid hbl
    clear hbl hc
    generalize Lib.trimS t hexSet = r at *
    go_wp2_with fail
    go_ret
    exact ⟨by rw [HF.out, ← HE.out]; rfl, HB.out⟩
  · have hb : ((t.length : Int) == 16) = false := by rw [beq_eq_false_iff_ne]; omega
    have HF : Hid (isDig t = false) := Lib.hid (by rw [isDig, decide_eq_false h16, Bool.false_and])
    clear h16
    go_enter Tryz.func47, Tryz.ntmps47
    go_wp2_with fail
    go_ret
    exact ⟨by rw [HF.out]; rfl, Below.refl _ _⟩
end Go.Proofs.YtpmonhilfpfiaaaGreatDoor
