/-
  'within' of both packages of chapter 11.
-/
import Derived.Test.YtmlhpemgpndppaaDoorProg
import Derived.Test.YtmlhpemgpndppaaDoorBase
namespace Go.Proofs.YtmlhpemgpndppaaDoor
open Go.RowKit
set_option linter.unusedVariables false

def withinB (n lo hi : Int) : Bool := decide (lo ≤ n ∧ n ≤ hi)
end Go.Proofs.YtmlhpemgpndppaaDoor
