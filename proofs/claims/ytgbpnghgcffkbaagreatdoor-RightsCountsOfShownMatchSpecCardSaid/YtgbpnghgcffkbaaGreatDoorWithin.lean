/-
  'within' of both packages of chapter 11.
-/
import Derived.Test.YtgbpnghgcffkbaaGreatDoorProg
import Derived.Test.YtgbpnghgcffkbaaGreatDoorBase
namespace Go.Proofs.YtgbpnghgcffkbaaGreatDoor
open Go.RowKit
set_option linter.unusedVariables false

def withinB (n lo hi : Int) : Bool := decide (lo ≤ n ∧ n ≤ hi)
end Go.Proofs.YtgbpnghgcffkbaaGreatDoor
