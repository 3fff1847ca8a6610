/-
  slices.BinarySearch at []uint64 of a sorted row.
-/
import Derived.Test.YtnkdcmibafjplaaGreatDoorProg
import Derived.Test.YtnkdcmibafjplaaGreatDoorBase
import Derived.Test.YtnkdcmibafjplaaGreatDoorU64
import Derived.Deep.LoopGhost
import Derived.Deep.Draws
import Derived.Lib.SlicesSearch
namespace Go.Proofs.YtnkdcmibafjplaaGreatDoor
open Go.RowKit
set_option linter.unusedVariables false
set_option linter.unusedSimpArgs false

end Go.Proofs.YtnkdcmibafjplaaGreatDoor
