/-
  One other byte: another digest.
-/
import Derived.Test.YtpmonhilfpfiaaaGreatDoorProg
import Derived.Test.YtpmonhilfpfiaaaGreatDoorDigC
import Derived.Laws.Bits64
namespace Go.Proofs.YtpmonhilfpfiaaaGreatDoor
open Go.RowKit
set_option linter.unusedVariables false
set_option linter.unusedSimpArgs false

theorem hexB_inj {m m' : Int} (h : hexB m = hexB m') : m % 16 = m' % 16 := by
  have h1 := Int.emod_nonneg m (show (16 : Int) ≠ 0 by decide)
  have h2 := Int.emod_lt_of_pos m (show (0 : Int) < 16 by decide)
  have h3 := Int.emod_nonneg m' (show (16 : Int) ≠ 0 by decide)
  have h4 := Int.emod_lt_of_pos m' (show (0 : Int) < 16 by decide)
  unfold hexB at h
  obtain ⟨a, ha⟩ : ∃ a : Nat, (m % 16).toNat = a := ⟨_, rfl⟩
  obtain ⟨b, hb⟩ : ∃ b : Nat, (m' % 16).toNat = b := ⟨_, rfl⟩
  rw [ha, hb] at h
  have key : ∀ a : Fin 16, ∀ b : Fin 16, ([48, 49, 50, 51, 52, 53, 54, 55, 56, 57, 97, 98, 99, 100, 101, 102] : List UInt8).getD a.val 0 = ([48, 49, 50, 51, 52, 53, 54, 55, 56, 57, 97, 98, 99, 100, 101, 102] : List UInt8).getD b.val 0 → a = b := by decide
  have := congrArg Fin.val (key ⟨a, by omega⟩ ⟨b, by omega⟩ h)
  dsimp only at this
  omega
theorem hexL_mod {n m : Int} : ∀ (k : Nat), hexL n k = hexL m k → n % (16 ^ k : Nat) = m % (16 ^ k : Nat)
  | 0, _ => by simp [Int.emod_one]
  | k + 1, h => by
    rw [hexL_succ, hexL_succ] at h
    injection h with h1 h2
    have ih := hexL_mod k h2
    have hd := hexB_inj h1
    have e : ((16 ^ (k + 1) : Nat) : Int) = (16 ^ k : Nat) * 16 := by rw [Nat.pow_succ]; push_cast; rfl
    have hp : (0 : Int) < (16 ^ k : Nat) := by exact_mod_cast Nat.pow_pos (by decide)
    have s : ∀ x : Int, x % ((16 ^ k : Nat) * 16) = x % (16 ^ k : Nat) + (16 ^ k : Nat) * (x / (16 ^ k : Nat) % 16) := fun x => by
      generalize ((16 ^ k : Nat) : Int) = P at hp
      have a1 := Int.mul_ediv_add_emod x P
      have a2 := Int.mul_ediv_add_emod (x / P) 16
      have r0 := Int.emod_nonneg x (show P ≠ 0 by omega)
      have r1 := Int.emod_lt_of_pos x hp
      have d0 := Int.emod_nonneg (x / P) (show (16 : Int) ≠ 0 by decide)
      have d1 := Int.emod_lt_of_pos (x / P) (show (0 : Int) < 16 by decide)
      have hx : x = (x % P + P * (x / P % 16)) + (P * 16) * (x / P / 16) := by
        have : P * (x / P) = P * (16 * (x / P / 16) + x / P % 16) := by rw [a2]
        rw [Int.mul_add, ← Int.mul_assoc] at this
        omega
      have m1 := Int.mul_le_mul_of_nonneg_left (show x / P % 16 ≤ 15 by omega) (Int.le_of_lt hp)
      have m0 := Int.mul_nonneg (Int.le_of_lt hp) d0
      have : x % (P * 16) = ((x % P + P * (x / P % 16)) + (P * 16) * (x / P / 16)) % (P * 16) := by rw [← hx]
      rw [this, Int.add_mul_emod_self_left, Int.emod_eq_of_lt (by omega) (by omega)]
    rw [e, s n, s m, ih, hd]
theorem hexL_inj {n m : Int} (hn : 0 ≤ n) (hn1 : n ≤ 18446744073709551615) (hm : 0 ≤ m) (hm1 : m ≤ 18446744073709551615) (h : hexL n 16 = hexL m 16) : n = m := by
  have := hexL_mod 16 h
  rw [show ((16 ^ 16 : Nat) : Int) = 18446744073709551616 by rfl, Int.emod_eq_of_lt hn (by omega), Int.emod_eq_of_lt hm (by omega)] at this
  exact this
theorem fnvS_nat (a : Nat) (b : UInt8) (ha : a < 18446744073709551616) : fnvS a b = (((a ^^^ b.toNat) * 1099511628211 % 18446744073709551616 : Nat) : Int) := by
  have hb : b.toNat < 256 := b.toNat_lt
  unfold fnvS
  rw [IntKind.wrap_u64 (b.toNat : Int), show ((b.toNat : Int) % 18446744073709551616) = (b.toNat : Int) by omega, bits_xor_u64_nat a b.toNat ha (by omega), IntKind.wrap_u64]
  generalize a ^^^ b.toNat = z
  omega
theorem xor_lt64 (a b : Nat) (ha : a < 18446744073709551616) (hb : b < 18446744073709551616) : a ^^^ b < 18446744073709551616 := Nat.xor_lt_two_pow (n := 64) ha hb
theorem mul_inj {x y : Nat} (hx : x < 18446744073709551616) (hy : y < 18446744073709551616) (h : x * 1099511628211 % 18446744073709551616 = y * 1099511628211 % 18446744073709551616) : x = y := by
  have key : ∀ z : Nat, z < 18446744073709551616 → z * 1099511628211 % 18446744073709551616 * 14886173955864302971 % 18446744073709551616 = z := fun z hz => by
    rw [Nat.mod_mul_mod, Nat.mul_assoc, Nat.mul_mod, show 1099511628211 * 14886173955864302971 % 18446744073709551616 = 1 by rfl, Nat.mul_one, Nat.mod_mod, Nat.mod_eq_of_lt hz]
  rw [← key x hx, ← key y hy, h]
theorem fnvS_inj {a a' : Nat} {b b' : UInt8} (ha : a < 18446744073709551616) (ha' : a' < 18446744073709551616) (h : fnvS a b = fnvS a' b') : a ^^^ b.toNat = a' ^^^ b'.toNat := by
  have hb : b.toNat < 256 := b.toNat_lt
  have hb' : b'.toNat < 256 := b'.toNat_lt
  rw [fnvS_nat a b ha, fnvS_nat a' b' ha'] at h
  exact mul_inj (xor_lt64 a b.toNat ha (by omega)) (xor_lt64 a' b'.toNat ha' (by omega)) (Int.ofNat_inj.1 h)
theorem xor_cancel {a b c : Nat} (h : a ^^^ c = b ^^^ c) : a = b := by
  have := congrArg (· ^^^ c) h
  simpa [Nat.xor_assoc] using this
theorem xor_cancel_left {a b c : Nat} (h : a ^^^ b = a ^^^ c) : b = c := by
  have := congrArg (a ^^^ ·) h
  simpa [← Nat.xor_assoc] using this
theorem fold_ne : ∀ (l : List UInt8) (a a' : Nat), a < 18446744073709551616 → a' < 18446744073709551616 → a ≠ a' → l.foldl fnvS (a : Int) ≠ l.foldl fnvS (a' : Int)
  | [], a, a', _, _, h => fun e => h (Int.ofNat_inj.1 (show (a : Int) = a' from e))
  | b :: l, a, a', ha, ha', h => by
    rw [List.foldl_cons, List.foldl_cons, fnvS_nat a b ha, fnvS_nat a' b ha']
    refine fold_ne l _ _ (Nat.mod_lt _ (by decide)) (Nat.mod_lt _ (by decide)) fun e => h ?_
    have hb : b.toNat < 256 := b.toNat_lt
    exact xor_cancel (mul_inj (xor_lt64 _ _ ha (by omega)) (xor_lt64 _ _ ha' (by omega)) e)
theorem fold_set : ∀ (l : List UInt8) (q : Nat) (h : q < l.length) (c : UInt8) (a : Nat), a < 18446744073709551616 → c ≠ l[q] → (l.set q c).foldl fnvS (a : Int) ≠ l.foldl fnvS (a : Int)
  | b :: l, 0, _, c, a, ha, hc => by
    rw [List.set_cons_zero, List.foldl_cons, List.foldl_cons, fnvS_nat a c ha, fnvS_nat a b ha]
    refine fold_ne l _ _ (Nat.mod_lt _ (by decide)) (Nat.mod_lt _ (by decide)) fun e => hc ?_
    have hb : b.toNat < 256 := b.toNat_lt
    have hb' : c.toNat < 256 := c.toNat_lt
    exact UInt8.toNat_inj.1 (xor_cancel_left (mul_inj (xor_lt64 a c.toNat ha (by omega)) (xor_lt64 a b.toNat ha (by omega)) e))
  | b :: l, q + 1, h, c, a, ha, hc => by
    rw [List.set_cons_succ, List.foldl_cons, List.foldl_cons, fnvS_nat a b ha]
    exact fold_set l q (by simpa using h) c _ (Nat.mod_lt _ (by decide)) (by simpa using hc)
theorem dig_set (l : List UInt8) (q : Nat) (h : q < l.length) (c : UInt8) (hc : c ≠ l[q]) : hexL (fnv (l.set q c)) 16 ≠ hexL (fnv l) 16 := fun e =>
  fold_set l q h c 14695981039346656037 (by decide) hc (hexL_inj (fnv_lo _) (fnv_hi _) (fnv_lo _) (fnv_hi _) e)
end Go.Proofs.YtpmonhilfpfiaaaGreatDoor
