/-
  Resemblances, plainly: mutual, of a text with itself, and no more than what is contained. No condition.
-/
import Derived.Test.YtllbklnljmgppaaContP
namespace Go.Proofs.Ytllbklnljmgppaa
open Go.RowKit
set_option linter.unusedVariables false

theorem resQ_comm {a b : List Int} (ha : a.Pairwise (· < ·)) (hb : b.Pairwise (· < ·)) : resQ b a = resQ a b := by
  unfold resQ
  rw [com_comm _ b a (Nat.le_refl _) hb ha, Nat.add_comm b.length a.length]
theorem com_self (a : List Int) : com a a = a.length := by
  unfold com
  rw [List.countP_eq_length]
  intro x hx
  simpa using hx
theorem resQ_self (a : List Int) : resQ a a = (1, 1) := by
  unfold resQ
  by_cases h : a.length + a.length = 0
  · rw [if_pos h]
  · rw [if_neg h, com_self, Nat.add_sub_cancel]
    unfold ratQ
    rw [Nat.gcd_self, Nat.div_self (by omega)]
theorem ratQ_le (a b : Nat) : (ratQ a b).1 ≤ a ∧ (ratQ a b).2 ≤ b := ⟨Nat.div_le_self _ _, Nat.div_le_self _ _⟩
theorem ratQ_cross {c A L : Nat} (hA : 0 < A) (hL : 0 < L) (h : L ≤ A) : (ratQ c A).1 * (ratQ c L).2 ≤ (ratQ c L).1 * (ratQ c A).2 := by
  unfold ratQ
  show c / Nat.gcd c A * (L / Nat.gcd c L) ≤ c / Nat.gcd c L * (A / Nat.gcd c A)
  have p1 : 0 < Nat.gcd c A := Nat.gcd_pos_of_pos_right _ hA
  have p2 : 0 < Nat.gcd c L := Nat.gcd_pos_of_pos_right _ hL
  obtain ⟨c1, h1⟩ := Nat.gcd_dvd_left c A
  obtain ⟨A1, h2⟩ := Nat.gcd_dvd_right c A
  obtain ⟨c2, h3⟩ := Nat.gcd_dvd_left c L
  obtain ⟨L1, h4⟩ := Nat.gcd_dvd_right c L
  generalize Nat.gcd c A = g at *
  generalize Nat.gcd c L = k at *
  have e1 : c / g = c1 := by rw [h1, Nat.mul_div_cancel_left _ p1]
  have e2 : A / g = A1 := by rw [h2, Nat.mul_div_cancel_left _ p1]
  have e3 : c / k = c2 := by rw [h3, Nat.mul_div_cancel_left _ p2]
  have e4 : L / k = L1 := by rw [h4, Nat.mul_div_cancel_left _ p2]
  rw [e1, e2, e3, e4]
  have hm : c * L ≤ c * A := Nat.mul_le_mul_left _ h
  have l : c * L = (g * k) * (c1 * L1) := by
    rw [h4]; conv => lhs; rw [h1]
    simp only [Nat.mul_left_comm, Nat.mul_comm]
  have r : c * A = (g * k) * (c2 * A1) := by
    rw [h2]; conv => lhs; rw [h3]
    simp only [Nat.mul_left_comm, Nat.mul_comm]
  rw [l, r] at hm
  exact Nat.le_of_mul_le_mul_left hm (Nat.mul_pos p1 p2)
theorem resQ_cross {a b : List Int} (ha : a.Pairwise (· < ·)) (hb : b.Pairwise (· < ·)) : (resQ a b).1 * (conQ a b).2 ≤ (conQ a b).1 * (resQ a b).2 := by
  have hr := com_le_right ha hb
  have hl := com_le a b
  by_cases h0 : a.length = 0
  · have hc : com a b = 0 := by omega
    unfold resQ conQ
    rw [if_pos h0, hc]
    by_cases h1 : a.length + b.length = 0
    · rw [if_pos h1]; decide
    · rw [if_neg h1]
      show 0 / _ * 1 ≤ _
      rw [Nat.zero_div]; exact Nat.zero_le _
  · unfold resQ conQ
    rw [if_neg h0, if_neg (by omega)]
    exact ratQ_cross (by omega) (by omega) (by omega)
theorem resQ_le {a b : List Int} (la : a.length ≤ 20001) (lb : b.length ≤ 20001) : (resQ a b).1 ≤ 40002 ∧ (resQ a b).2 ≤ 40002 := by
  have hl := com_le a b
  unfold resQ
  split
  · exact ⟨by decide, by decide⟩
  · have := ratQ_le (com a b) (a.length + b.length - com a b); omega
theorem conQ_le {a b : List Int} (la : a.length ≤ 20001) : (conQ a b).1 ≤ 40002 ∧ (conQ a b).2 ≤ 40002 := by
  have hl := com_le a b
  unfold conQ
  split
  · exact ⟨by decide, by decide⟩
  · have := ratQ_le (com a b) a.length; omega

theorem askF_comm (a b : List UInt8) (n : Int) : askF b a n = askF a b n := by
  unfold askF txB
  rw [show (decide (b.length ≤ 20000 ∧ a.length ≤ 20000)) = decide (a.length ≤ 20000 ∧ b.length ≤ 20000) from decide_eq_decide.2 And.comm]
theorem qRes_comm (a b : List UInt8) (n : Int) : qRes b a n = qRes a b n := by
  unfold qRes
  rw [askF_comm, resQ_comm (shL_sorted _ _) (shL_sorted _ _)]
theorem qRes_fault {a b : List UInt8} {n : Int} (h : askF a b n ≠ 0) : qRes a b n = (0, 0) := by unfold qRes; rw [if_neg h]
theorem askF_self {a b : List UInt8} {n : Int} (h : askF a b n = 0) : askF a a n = 0 := by
  rcases askF_cases a b n with ⟨_, h1, h2⟩ | ⟨h1, _⟩ | ⟨h1, _⟩
  · have := (of_decide_eq_true h1 : a.length ≤ 20000 ∧ b.length ≤ 20000).1
    unfold askF
    rw [if_pos (show txB a a = true from decide_eq_true ⟨this, this⟩), if_pos h2]
  · rw [h1] at h; cases h
  · rw [h1] at h; cases h
theorem qRes_self {a b : List UInt8} {n : Int} (h : askF a b n = 0) : qRes a a n = (1, 1) := by
  unfold qRes; rw [if_pos (askF_self h), resQ_self]
theorem q_facts {a b : List UInt8} {n : Int} (h : askF a b n = 0) : (qRes a b n).1 ≤ 40002 ∧ (qRes a b n).2 ≤ 40002 ∧ (qCon a b n).1 ≤ 40002 ∧ (qCon a b n).2 ≤ 40002 ∧ (qRes a b n).1 * (qCon a b n).2 ≤ (qCon a b n).1 * (qRes a b n).2 := by
  rcases askF_cases a b n with ⟨_, h1, h2⟩ | ⟨h1, _⟩ | ⟨h1, _⟩
  · have ht := (of_decide_eq_true h1 : a.length ≤ 20000 ∧ b.length ≤ 20000)
    have hn := (of_decide_eq_true h2 : 1 ≤ n ∧ n ≤ 10)
    have la := shL_len ht.1 n.toNat (by omega)
    have lb := shL_len ht.2 n.toNat (by omega)
    unfold qRes qCon
    rw [if_pos h, if_pos h]
    exact ⟨(resQ_le la lb).1, (resQ_le la lb).2, (conQ_le la).1, (conQ_le la).2, resQ_cross (shL_sorted _ _) (shL_sorted _ _)⟩
  · rw [h1] at h; cases h
  · rw [h1] at h; cases h
end Go.Proofs.Ytllbklnljmgppaa
