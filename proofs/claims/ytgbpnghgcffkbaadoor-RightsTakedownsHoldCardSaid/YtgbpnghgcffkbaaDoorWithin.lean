/-
  'within' of both packages of chapter 11.
-/
import Derived.Test.YtgbpnghgcffkbaaDoorProg
import Derived.Test.YtgbpnghgcffkbaaDoorBase
namespace Go.Proofs.YtgbpnghgcffkbaaDoor
open Go.RowKit
set_option linter.unusedVariables false

def withinB (n lo hi : Int) : Bool := decide (lo ≤ n ∧ n ≤ hi)
end Go.Proofs.YtgbpnghgcffkbaaDoor
