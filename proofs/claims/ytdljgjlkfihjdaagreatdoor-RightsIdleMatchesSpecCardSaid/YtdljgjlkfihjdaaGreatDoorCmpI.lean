/-
  cmp.Compare and cmp.Or of numbers.
-/
import Derived.Test.YtdljgjlkfihjdaaGreatDoorProg
import Derived.Test.YtdljgjlkfihjdaaGreatDoorBase
namespace Go.Proofs.YtdljgjlkfihjdaaGreatDoor
open Go.RowKit
set_option linter.unusedVariables false
set_option linter.unusedSimpArgs false

def icmp (x y : Int) : Int := if x < y then -1 else if y < x then 1 else 0
theorem nan_any (x : Int) (w : World) : Calls Tryz.prog 69 #[.int .i64 x] w fun e w' => e = .returned (.bool false) ∧ w' = w := by
  go_enter Tryz.func69, Tryz.ntmps69
  go_wp2_with fail
  go_ret
  exact ⟨rfl, rfl⟩
set_option maxRecDepth 100000 in
set_option maxHeartbeats 1000000 in
theorem icmp_any (x y : Int) (w : World) : Calls Tryz.prog 48 #[.int .i64 x, .int .i64 y] w fun e w' => e = .returned (.int .i64 (icmp x y)) ∧ w' = w := by
  have HF : Hid (icmp x y = if x < y then -1 else if y < x then 1 else 0) := Lib.hid rfl
  rcases Int.lt_trichotomy x y with h | h | h
  · have HC := Lib.hid h
    go_enter Tryz.func48, Tryz.ntmps48
    go_wp2_with (go_at_call 69; refine (nan_any _ _).mono ?_; rintro e w1 ⟨rfl, rfl⟩)
    go_ret
    exact ⟨by rw [HF.out, if_pos (by have := HC.out; omega)]; rfl, rfl⟩
  · subst h
    go_enter Tryz.func48, Tryz.ntmps48
    go_wp2_with (go_at_call 69; refine (nan_any _ _).mono ?_; rintro e w1 ⟨rfl, rfl⟩)
    go_ret
    exact ⟨by rw [HF.out, if_neg (by omega), if_neg (by omega)]; rfl, rfl⟩
  · have h2 : ¬ x < y := by omega
    have HC := Lib.hid (And.intro h h2)
    go_enter Tryz.func48, Tryz.ntmps48
    go_wp2_with (go_at_call 69; refine (nan_any _ _).mono ?_; rintro e w1 ⟨rfl, rfl⟩)
    go_ret
    exact ⟨by rw [HF.out, if_neg (by have := HC.out.2; omega), if_pos (by have := HC.out.1; omega)]; rfl, rfl⟩
/-- The first that is not 0. -/
def orL : List Int → Int
  | [] => 0
  | x :: l => if x = 0 then orL l else x
theorem orL_at : ∀ {l : List Int} {k : Nat} (hk : k < l.length), (∀ j, j < k → ∀ hj : j < l.length, l[j] = 0) → l[k] ≠ 0 → orL l = l[k]
  | x :: l, 0, _, _, h => by rw [orL, if_neg (show ¬ x = 0 from h)]; rfl
  | x :: l, k + 1, hk, ha, h => by
    rw [orL, if_pos (show x = 0 from ha 0 (by omega) (by simp))]
    exact orL_at (l := l) (k := k) (by simpa using hk) (fun j hj hl => ha (j + 1) (by omega) (by simpa using hl)) h
theorem orL_none : ∀ {l : List Int}, (∀ j, ∀ hj : j < l.length, l[j] = 0) → orL l = 0
  | [], _ => rfl
  | x :: l, h => by
    rw [orL, if_pos (show x = 0 from h 0 (by simp))]
    exact orL_none fun j hj => h (j + 1) (by simpa using hj)
set_option maxRecDepth 100000 in
set_option maxHeartbeats 1000000 in
theorem orL_any (g : Nat) (l : List Int) (t : TypeId) (n : Nat) (hn : n = l.length) (w : World) (h : Blk w g t (l.map (.int .i64))) (hl : l.length ≤ 100000) :
    Calls Tryz.prog 47 #[.slice (some ⟨g, 0, none⟩) n n] w fun e w' => e = .returned (.int .i64 (orL l)) ∧ w' = w := by
  subst hn
  have H := Lib.hid h
  clear h
  go_enter Tryz.func47, Tryz.ntmps47
  go_wp2
  go_loop [8] (fun i => ∃ k : Nat, k ≤ l.length ∧ i = .int .i64 k ∧ Hid (∀ j, j < k → ∀ hj : j < l.length, l[j] = 0)) (fun i => l.length - (intOf i).toNat)
  case atStart => exact ⟨0, by omega, rfl, Lib.hid (fun j hj => absurd hj (by omega))⟩
  case round =>
    obtain ⟨k, hk, rfl, HS⟩ := hrel
    by_cases hlt : k < l.length
    · have hc : w.cell? ⟨g, k, none⟩ = some (.int .i64 l[k]) := by rw [H.out.cell k, List.getElem?_map, List.getElem?_eq_getElem hlt]; rfl
      have HA := Lib.hid (fun h => orL_at hlt HS.out h)
      have HN : Hid (l[k] = 0 → ∀ j, j < k + 1 → ∀ hj : j < l.length, l[j] = 0) := Lib.hid (fun h j hj hjl => by
        by_cases e : j = k
        · subst e; exact h
        · exact HS.out j (by omega) hjl)
      generalize l[k] = x at *
      have hm0 : (0 : Int) ≤ (k : Int) := by omega
      have hmL : (k : Int) < (l.length : Int) := by omega
      by_cases hx : x = 0
      · have b : (x != 0) = false := by simp [hx]
        have HN2 := Lib.hid (HN.out hx)
        clear hx HN HA
        go_wp2
        go_round
        case rel => exact ⟨k + 1, by omega, by go_num, HN2⟩
        case measure => simp [intOf]; omega
      · have b : (x != 0) = true := by simpa using hx
        have HF := Lib.hid (HA.out hx)
        clear hx HN HA
        go_wp2
        go_ret
        exact ⟨by rw [HF.out]; rfl, rfl⟩
    · obtain rfl : k = l.length := by omega
      have HF := Lib.hid (orL_none fun j hj => HS.out j hj hj)
      go_wp2
      go_ret
      exact ⟨by rw [HF.out]; rfl, rfl⟩
end Go.Proofs.YtdljgjlkfihjdaaGreatDoor
