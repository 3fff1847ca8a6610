/-
  'within' of both packages of chapter 11.
-/
import Derived.Test.YtobgkmkapknppaaDoorProg
import Derived.Test.YtobgkmkapknppaaDoorBase
namespace Go.Proofs.YtobgkmkapknppaaDoor
open Go.RowKit
set_option linter.unusedVariables false

def withinB (n lo hi : Int) : Bool := decide (lo ≤ n ∧ n ≤ hi)
end Go.Proofs.YtobgkmkapknppaaDoor
