/-
  'within' of both packages of chapter 11.
-/
import Derived.Test.YtgilcllfdgdofaaGreatDoorProg
import Derived.Test.YtgilcllfdgdofaaGreatDoorBase
namespace Go.Proofs.YtgilcllfdgdofaaGreatDoor
open Go.RowKit
set_option linter.unusedVariables false

def withinB (n lo hi : Int) : Bool := decide (lo ≤ n ∧ n ≤ hi)
end Go.Proofs.YtgilcllfdgdofaaGreatDoor
