/-
  Rows of bytes from 33 to 126, digests: 'isRow', 'isNonce', 'isDigest', 'digest' of both packages.
-/
import Derived.Test.YtdljgjlkfihjdaaGreatDoorProg
import Derived.Test.YtdljgjlkfihjdaaGreatDoorTrim
import Derived.Test.YtdljgjlkfihjdaaGreatDoorDigC
import Derived.Test.YtdljgjlkfihjdaaGreatDoorStr
namespace Go.Proofs.YtdljgjlkfihjdaaGreatDoor
open Go.RowKit
set_option linter.unusedVariables false
set_option linter.unusedSimpArgs false

def rowByte (b : UInt8) : Bool := decide (33 ≤ b.toNat) && decide (b.toNat ≤ 126)
def isRowB (t : List UInt8) (m : Int) : Bool := t.all rowByte && (decide (1 ≤ t.length) && decide ((t.length : Int) ≤ m))
theorem rowByte_no {b : UInt8} (h : b.toNat < 33 ∨ 126 < b.toNat) : rowByte b = false := by
  unfold rowByte
  rcases h with h | h
  · rw [decide_eq_false (by omega)]; rfl
  · rw [decide_eq_false (p := b.toNat ≤ 126) (by omega), Bool.and_false]
theorem rowByte_yes {b : UInt8} (h1 : ¬ b.toNat < 33) (h2 : ¬ 126 < b.toNat) : rowByte b = true := by
  unfold rowByte
  rw [decide_eq_true (by omega), decide_eq_true (by omega)]; rfl
theorem all_no {t : List UInt8} {p : UInt8 → Bool} {k : Nat} (hk : k < t.length) (h : p t[k] = false) : t.all p = false := by
  rw [List.all_eq_false]; exact ⟨_, List.getElem_mem hk, by rw [h]; decide⟩
theorem all_yes {t : List UInt8} {p : UInt8 → Bool} {k : Nat} (h : (t.take k).all p = true) (hk : k < t.length) (hb : p t[k] = true) : (t.take (k + 1)).all p = true := by
  rw [List.take_succ_eq_append_getElem hk, List.all_append, h]; simpa using hb
def hexSet : List UInt8 := [48, 49, 50, 51, 52, 53, 54, 55, 56, 57, 97, 98, 99, 100, 101, 102]
def isDig (t : List UInt8) : Bool := decide (t.length = 16) && t.all (hexSet.contains ·)
theorem isDig_len {t : List UInt8} (h : isDig t = true) : t.length = 16 := by
  unfold isDig at h
  rw [Bool.and_eq_true, decide_eq_true_eq] at h; exact h.1
theorem isRowB_len {t : List UInt8} {m : Int} (h : isRowB t m = true) : 1 ≤ t.length ∧ (t.length : Int) ≤ m := by
  unfold isRowB at h
  rw [Bool.and_eq_true, Bool.and_eq_true, decide_eq_true_eq, decide_eq_true_eq] at h; exact h.2
/-- The digest of bytes, in bytes. -/
def digL (t : List UInt8) : List UInt8 := hexL (fnv t) 16
theorem digL_len (t : List UInt8) : (digL t).length = 16 := hexL_len _ _
end Go.Proofs.YtdljgjlkfihjdaaGreatDoor
