/-
  'within' of both packages of chapter 11.
-/
import Derived.Test.YtfgglpjmkahphaaGreatDoorProg
import Derived.Test.YtfgglpjmkahphaaGreatDoorBase
namespace Go.Proofs.YtfgglpjmkahphaaGreatDoor
open Go.RowKit
set_option linter.unusedVariables false

def withinB (n lo hi : Int) : Bool := decide (lo ≤ n ∧ n ≤ hi)
end Go.Proofs.YtfgglpjmkahphaaGreatDoor
