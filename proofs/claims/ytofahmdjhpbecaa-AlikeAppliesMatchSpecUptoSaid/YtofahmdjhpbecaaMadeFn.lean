/-
  The closure in 'made' of package alike: a change has more than 400 lines.
-/
import Derived.Test.YtofahmdjhpbecaaProg
import Derived.Test.YtofahmdjhpbecaaChkChange
namespace Go.Proofs.Ytofahmdjhpbecaa
open Go.RowKit
set_option linter.unusedVariables false
set_option linter.unusedSimpArgs false

set_option maxRecDepth 100000 in
set_option maxHeartbeats 400000 in
theorem madeFn_any (kind : Int) (A : Option Addr) (n cp : Nat) (w : World) (hn : n ≤ 9223372036854775807) :
    Calls Try.prog 97 #[.agg #[.int .i64 kind, .slice A n cp]] w fun e w' => e = .returned (.bool (decide ((400 : Int) < n))) ∧ w' = w.alloc (.cells #[.int .i64 kind, .slice A n cp] 109) := by
  go_enter Try.func97, Try.ntmps97
  go_wp2
  go_ret
  exact ⟨rfl, rfl⟩
end Go.Proofs.Ytofahmdjhpbecaa
