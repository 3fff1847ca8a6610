/-
  'within' of both packages of chapter 11.
-/
import Derived.Test.YtfgglpjmkahphaaDoorProg
import Derived.Test.YtfgglpjmkahphaaDoorBase
namespace Go.Proofs.YtfgglpjmkahphaaDoor
open Go.RowKit
set_option linter.unusedVariables false

def withinB (n lo hi : Int) : Bool := decide (lo ≤ n ∧ n ≤ hi)
end Go.Proofs.YtfgglpjmkahphaaDoor
