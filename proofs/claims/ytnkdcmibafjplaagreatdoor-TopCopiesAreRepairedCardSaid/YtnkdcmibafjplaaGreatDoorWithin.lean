/-
  'within' of both packages of chapter 11.
-/
import Derived.Test.YtnkdcmibafjplaaGreatDoorProg
import Derived.Test.YtnkdcmibafjplaaGreatDoorBase
namespace Go.Proofs.YtnkdcmibafjplaaGreatDoor
open Go.RowKit
set_option linter.unusedVariables false

def withinB (n lo hi : Int) : Bool := decide (lo ≤ n ∧ n ≤ hi)
set_option maxHeartbeats 400000 in
theorem cwithin_any (n lo hi : Int) (w : World) : Calls Tryz.prog 33 #[.int .i64 n, .int .i64 lo, .int .i64 hi] w fun e w' => e = .returned (.bool (withinB n lo hi)) ∧ w = w' := by
  by_cases h1 : lo ≤ n
  · by_cases h2 : n ≤ hi
    · skip
      have hd : Hid (withinB n lo hi = true) := decide_eq_true ⟨h1, h2⟩
      go_enter Tryz.func33, Tryz.ntmps33
      go_wp2
      go_ret
      exact ⟨by rw [hd.out]; rfl, rfl⟩
    · skip
      have hd : Hid (withinB n lo hi = false) := decide_eq_false (fun h => h2 h.2)
      go_enter Tryz.func33, Tryz.ntmps33
      go_wp2
      go_ret
      exact ⟨by rw [hd.out]; rfl, rfl⟩
  · skip
    have hd : Hid (withinB n lo hi = false) := decide_eq_false (fun h => h1 h.1)
    go_enter Tryz.func33, Tryz.ntmps33
    go_wp2
    go_ret
    exact ⟨by rw [hd.out]; rfl, rfl⟩
end Go.Proofs.YtnkdcmibafjplaaGreatDoor
