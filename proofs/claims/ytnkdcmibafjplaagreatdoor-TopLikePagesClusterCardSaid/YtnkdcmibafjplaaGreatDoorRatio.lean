/-
  'ratio' of both packages: a ratio in lowest terms.
-/
import Derived.Test.YtnkdcmibafjplaaGreatDoorProg
import Derived.Test.YtnkdcmibafjplaaGreatDoorBase
namespace Go.Proofs.YtnkdcmibafjplaaGreatDoor
open Go.RowKit
set_option linter.unusedVariables false
set_option linter.unusedSimpArgs false

/-- The values of a ratio in lowest terms. -/
def ratV (a b : Nat) : Value := .agg #[.int .i64 (a / Nat.gcd a b : Nat), .int .i64 (b / Nat.gcd a b : Nat)]

theorem rat_val (a q : Nat) (ha : a ≤ 1000000000) : wrap64 ((a : Int) / (q : Int)) = ((a / q : Nat) : Int) := by
  have h := Nat.div_le_self a q
  rw [show ((a : Int) / (q : Int)) = ((a / q : Nat) : Int) from (Int.natCast_ediv a q).symm]
  generalize a / q = d at *
  exact IntWalk.wrap64_in _ ⟨by omega, by omega⟩

set_option maxRecDepth 100000 in
set_option maxHeartbeats 1000000 in
theorem ratio_any (a b : Nat) (w : World) (ha : a ≤ 1000000000) (hb : b ≤ 1000000000) (hb0 : 0 < b) :
    Calls Tryz.prog 52 #[.int .i64 a, .int .i64 b] w fun e w' => e = .returned (ratV a b) ∧ Below w.heap.size w w' := by
  go_enter Tryz.func52, Tryz.ntmps52
  go_wp2
  go_loop [5, 6] (fun x y => ∃ p q : Nat, p ≤ 1000000000 ∧ q ≤ 1000000000 ∧ 0 < q ∧ x = .int .i64 p ∧ y = .int .i64 q ∧ Hid (Nat.gcd p q = Nat.gcd a b)) (fun x _ => (intOf x).toNat)
  case atStart => exact ⟨a, b, ha, hb, hb0, rfl, rfl, rfl⟩
  case round =>
    obtain ⟨p, q, hp, hq, hq0, rfl, rfl, HG⟩ := hrel
    by_cases hp0 : 0 < p
    · have hm : q % p < p := Nat.mod_lt _ hp0
      have HS : Hid (Nat.gcd (q % p) p = Nat.gcd a b) := by rw [← HG.out, ← Nat.gcd_rec]; exact rfl
      go_wp2
      go_round
      case rel => exact ⟨q % p, p, by omega, hp, hp0, by go_num, rfl, HS⟩
      case measure => simp [intOf]; omega
    · obtain rfl : p = 0 := by omega
      rw [Nat.gcd_zero_left] at HG
      have hne : ((q : Int) == 0) = false := by rw [beq_eq_false_iff_ne]; omega
      go_wp2
      go_region
      rw [show wrap64 ((a : Int) / (q : Int)) = ((a / q : Nat) : Int) from rat_val a q ha, show wrap64 ((b : Int) / (q : Int)) = ((b / q : Nat) : Int) from rat_val b q hb]
      have hq := HG.out
      subst hq
      go_wp2
      exact bodyPost_ret (v := ratV a b) (by simp [results, Tryz.results52, go_sem, ratV]) rfl ⟨rfl, below_drewN ((Below.refl _ _).alloc (Nat.le_refl _) _) 1⟩
end Go.Proofs.YtnkdcmibafjplaaGreatDoor
