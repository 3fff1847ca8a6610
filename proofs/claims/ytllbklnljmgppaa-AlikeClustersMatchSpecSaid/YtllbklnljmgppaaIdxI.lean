/-
  slices.Index at []int: the first place of a number that is there.
-/
import Derived.Test.YtllbklnljmgppaaProg
import Derived.Test.YtllbklnljmgppaaClusS
namespace Go.Proofs.Ytllbklnljmgppaa
open Go.RowKit
set_option linter.unusedVariables false
set_option linter.unusedSimpArgs false

set_option maxRecDepth 100000 in
set_option maxHeartbeats 1000000 in
theorem idxNat_any (gb c : Nat) (g : List Nat) (x i : Nat) (w : World) (hk : Blk w gb 3 (g.map natV)) (hi : i < g.length) (hx : g.getD i 0 = x) (hc : g.length ≤ c) (hl : g.length ≤ 1000) :
    Calls Try.prog 47 #[.slice (some ⟨gb, 0, none⟩) g.length c, .int .i64 (x : Nat)] w fun e w' => ∃ j : Nat, e = .returned (.int .i64 (j : Nat)) ∧ j ≤ i ∧ (j < i ↔ firstB g i = false) ∧ w = w' := by
  have HK := Lib.hid hk
  have HX := Lib.hid hx
  clear hk hx
  go_enter Try.func47, Try.ntmps47
  go_wp2_with fail
  go_loop [8] (fun vk => ∃ k : Nat, k ≤ i ∧ vk = .int .i64 k ∧ Hid (∀ j, j < k → g.getD j 0 ≠ x)) (fun vk => g.length - (intOf vk).toNat)
  case atStart => exact ⟨0, Nat.zero_le _, rfl, Lib.hid (fun j h => absurd h (by omega))⟩
  case round =>
    obtain ⟨k, hk, rfl, HN⟩ := hrel
    have hkl : k < g.length := by omega
    have hc0 : w.cell? ⟨gb, k, none⟩ = some (.int .i64 ((g.getD k 0 : Nat) : Int)) := by
      rw [HK.out.cell]; simp [natV, List.getD_eq_getElem?_getD, hkl]
    obtain ⟨y, hy⟩ : ∃ y, g.getD k 0 = y := ⟨_, rfl⟩
    rw [hy] at hc0
    have HY := Lib.hid hy
    clear hy
    by_cases he : y = x
    · have h1 : ((x : Int) == (y : Int)) = true := by rw [he]; simp
      have h2 : ((y : Int) == (x : Int)) = true := by rw [he]; simp
      have HP : Hid (k ≤ i ∧ (k < i ↔ firstB g i = false)) := Lib.hid ⟨hk, ⟨fun h => by
        cases hb : firstB g i with
        | false => rfl
        | true => exact absurd (by rw [HX.out, HY.out, he]) (firstB_iff.1 hb k h), fun hb => by
        rcases Nat.lt_or_ge k i with h | h
        · exact h
        · exfalso
          have : firstB g i = true := firstB_iff.2 fun j hj => by rw [HX.out]; exact HN.out j (by omega)
          rw [this] at hb; cases hb⟩⟩
      clear he
      go_wp2_with fail
      go_ret
      exact ⟨k, rfl, HP.out.1, HP.out.2, rfl⟩
    · have h1 : ((x : Int) == (y : Int)) = false := by rw [beq_eq_false_iff_ne]; omega
      have h2 : ((y : Int) == (x : Int)) = false := by rw [beq_eq_false_iff_ne]; omega
      have hki : k < i := by
        rcases Nat.lt_or_ge k i with h | h
        · exact h
        · exact absurd (by rw [← HX.out, ← HY.out, show k = i by omega]) he
      have HN2 : Hid (∀ j, j < k + 1 → g.getD j 0 ≠ x) := Lib.hid fun j hj => by
        rcases Nat.lt_or_ge j k with h | h
        · exact HN.out j h
        · rw [show j = k by omega, HY.out]; exact he
      clear he
      go_wp2_with fail
      go_round
      case rel => exact ⟨k + 1, by omega, by go_num, HN2⟩
      case measure => simp [intOf]; omega
end Go.Proofs.Ytllbklnljmgppaa
