/-
  'source' of the reference: the same as 'cheapest'.
-/
import Derived.Test.YtnkdcmibafjplaaGreatDoorCheap
namespace Go.Proofs.YtnkdcmibafjplaaGreatDoor
open Go.RowKit
set_option linter.unusedVariables false
set_option linter.unusedSimpArgs false

end Go.Proofs.YtnkdcmibafjplaaGreatDoor
