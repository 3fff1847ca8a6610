/-
  Names: 'IsName' of package record, 'isName' of the reference.
-/
import Derived.Test.YtnkdcmibafjplaaGreatDoorProg
import Derived.Test.YtnkdcmibafjplaaGreatDoorRow
namespace Go.Proofs.YtnkdcmibafjplaaGreatDoor
open Go.RowKit
set_option linter.unusedVariables false
set_option linter.unusedSimpArgs false

def nmSet : List UInt8 := [97, 98, 99, 100, 101, 102, 103, 104, 105, 106, 107, 108, 109, 110, 111, 112, 113, 114, 115, 116, 117, 118, 119, 120, 121, 122, 48, 49, 50, 51, 52, 53, 54, 55, 56, 57, 45]
def isLow (b : UInt8) : Bool := decide (97 ≤ b.toNat) && decide (b.toNat ≤ 122)
def isLow1 : List UInt8 → Bool
  | [] => false
  | c :: _ => isLow c
def isNm (t : List UInt8) : Bool := (decide (1 ≤ t.length) && decide (t.length ≤ 40)) && (isLow1 t && t.all (nmSet.contains ·))
theorem nm_len {t : List UInt8} (h : isNm t = true) : 1 ≤ t.length ∧ t.length ≤ 40 := by
  unfold isNm at h
  rw [Bool.and_eq_true, Bool.and_eq_true, decide_eq_true_eq, decide_eq_true_eq] at h; exact h.1
theorem nmSet_nat : ∀ n, n < 256 → nmSet.contains (UInt8.ofNat n) = ((decide (97 ≤ n) && decide (n ≤ 122)) || ((decide (48 ≤ n) && decide (n ≤ 57)) || decide (n = 45))) := by decide +kernel
theorem nmSet_is (b : UInt8) : nmSet.contains b = ((decide (97 ≤ b.toNat) && decide (b.toNat ≤ 122)) || ((decide (48 ≤ b.toNat) && decide (b.toNat ≤ 57)) || decide (b.toNat = 45))) := by
  have := nmSet_nat b.toNat b.toNat_lt
  rwa [UInt8.ofNat_toNat] at this
theorem nmSet_yes {b : UInt8} (h : (97 ≤ b.toNat ∧ b.toNat ≤ 122) ∨ (48 ≤ b.toNat ∧ b.toNat ≤ 57) ∨ b.toNat = 45) : nmSet.contains b = true := by
  rw [nmSet_is]
  rcases h with ⟨h1, h2⟩ | ⟨h1, h2⟩ | h
  · simp [h1, h2]
  · simp [h1, h2]
  · simp [h]
theorem nmSet_no {b : UInt8} (h : ¬ ((97 ≤ b.toNat ∧ b.toNat ≤ 122) ∨ (48 ≤ b.toNat ∧ b.toNat ≤ 57) ∨ b.toNat = 45)) : nmSet.contains b = false := by
  rw [nmSet_is]
  rw [Bool.or_eq_false_iff, Bool.or_eq_false_iff, Bool.and_eq_false_iff, Bool.and_eq_false_iff, decide_eq_false_iff_not, decide_eq_false_iff_not, decide_eq_false_iff_not, decide_eq_false_iff_not, decide_eq_false_iff_not]
  omega
theorem isNm_1 {t : List UInt8} (h : ¬ 1 ≤ t.length) : isNm t = false := by rw [isNm, decide_eq_false h]; rfl
theorem isNm_2 {t : List UInt8} (h : ¬ t.length ≤ 40) : isNm t = false := by rw [isNm, decide_eq_false h, Bool.and_false]; rfl
theorem isNm_3 {c : UInt8} {r : List UInt8} (h : isLow c = false) : isNm (c :: r) = false := by rw [isNm, isLow1, h, Bool.false_and, Bool.and_false]
theorem isNm_4 {c : UInt8} {r : List UInt8} (h1 : 1 ≤ (c :: r).length) (h2 : (c :: r).length ≤ 40) (h : isLow c = true) : isNm (c :: r) = (c :: r).all (nmSet.contains ·) := by
  rw [isNm, isLow1, h, decide_eq_true h1, decide_eq_true h2]; simp
theorem isLow_no {c : UInt8} (h : c.toNat < 97 ∨ 122 < c.toNat) : isLow c = false := by
  unfold isLow
  rcases h with h | h
  · rw [decide_eq_false (by omega)]; rfl
  · rw [decide_eq_false (p := c.toNat ≤ 122) (by omega), Bool.and_false]
theorem isLow_yes {c : UInt8} (h1 : 97 ≤ c.toNat) (h2 : c.toNat ≤ 122) : isLow c = true := by
  unfold isLow; rw [decide_eq_true h1, decide_eq_true h2]; rfl
/-- The first byte decides, or the string is empty or too long. -/
theorem nm_cases (t : List UInt8) : (¬ 1 ≤ t.length ∧ t = []) ∨ (1 ≤ t.length ∧ ¬ t.length ≤ 40) ∨ (1 ≤ t.length ∧ t.length ≤ 40 ∧ ∃ c r, t = c :: r) := by
  cases t with
  | nil => exact .inl ⟨by simp, rfl⟩
  | cons c r =>
    by_cases h : (c :: r).length ≤ 40
    · exact .inr (.inr ⟨by simp, h, c, r, rfl⟩)
    · exact .inr (.inl ⟨by simp, h⟩)

set_option maxRecDepth 100000 in
set_option maxHeartbeats 1000000 in
theorem isName_any (t : List UInt8) (w : World) (ht : t.length ≤ 9223372036854775807) :
    Calls Tryz.prog 27 #[.string (bstr t)] w fun e w' => e = .returned (.bool (isNm t)) ∧ Below w.heap.size w w' := by
  have hsz : (bstr t).size = t.length := rfl
  rcases nm_cases t with ⟨h1, rfl⟩ | ⟨h1, h2⟩ | ⟨h1, h2, c, r, rfl⟩
  · have HF := Lib.hid (isNm_1 h1)
    have h1' : ¬ (1 : Int) ≤ (([] : List UInt8).length : Int) := by simp
    clear h1
    go_enter Tryz.func27, Tryz.ntmps27
    go_wp2_with fail
    go_ret
    exact ⟨by rw [HF.out]; rfl, Below.refl _ _⟩
  · have HF := Lib.hid (isNm_2 h2)
    have h1' : (1 : Int) ≤ (t.length : Int) := by omega
    have h2' : ¬ (t.length : Int) ≤ 40 := by omega
    go_enter Tryz.func27, Tryz.ntmps27
    go_wp2_with fail
    go_ret
    exact ⟨by rw [HF.out]; rfl, Below.refl _ _⟩
  · have hg : ∀ h, (bstr (c :: r))[0]'h = c := fun _ => rfl
    have HF0 := Lib.hid (fun h => isNm_3 (c := c) (r := r) h)
    have HF4 := Lib.hid (fun h => isNm_4 (c := c) (r := r) h1 h2 h)
    have HE := Lib.hid (trim_isEmpty (c :: r) nmSet)
    have hc := trim_any (c :: r) nmSet w ht (by decide) (by decide)
    generalize hs : c :: r = t at *
    clear hs
    have h1' : (1 : Int) ≤ (t.length : Int) := by omega
    have h2' : (t.length : Int) ≤ 40 := by omega
    by_cases q1 : c.toNat < 97
    · have HF := Lib.hid (HF0.out (isLow_no (.inl q1)))
      have hb : ¬ (97 : Int) ≤ (((bstr t)[0]'(by rw [hsz]; omega)).toNat : Int) := by rw [hg]; omega
      clear hg q1 HF0 HF4 hc
      go_enter Tryz.func27, Tryz.ntmps27
      go_wp2_with fail
      go_ret
      exact ⟨by rw [HF.out]; rfl, Below.refl _ _⟩
    have hb1 : (97 : Int) ≤ (((bstr t)[0]'(by rw [hsz]; omega)).toNat : Int) := by rw [hg]; omega
    by_cases q2 : 122 < c.toNat
    · have HF := Lib.hid (HF0.out (isLow_no (.inr q2)))
      have hb : ¬ (((bstr t)[0]'(by rw [hsz]; omega)).toNat : Int) ≤ 122 := by rw [hg]; omega
      clear hg q1 q2 HF0 HF4 hc
      go_enter Tryz.func27, Tryz.ntmps27
      go_wp2_with fail
      go_ret
      exact ⟨by rw [HF.out]; rfl, Below.refl _ _⟩
    · have HF := Lib.hid (HF4.out (isLow_yes (by omega) (by omega)))
      have hb : (((bstr t)[0]'(by rw [hsz]; omega)).toNat : Int) ≤ 122 := by rw [hg]; omega
      clear hg q1 q2 HF0 HF4
      go_enter Tryz.func27, Tryz.ntmps27
      go_wp2_with fail
      refine hc.mono ?_
      rintro e w1 ⟨rfl, hbl⟩
      have HB := Lib.hid hbl
      clear hbl hc
      generalize Lib.trimS t nmSet = x at *
      go_wp2_with fail
      go_ret
      exact ⟨by rw [HF.out, ← HE.out]; rfl, HB.out⟩

end Go.Proofs.YtnkdcmibafjplaaGreatDoor
