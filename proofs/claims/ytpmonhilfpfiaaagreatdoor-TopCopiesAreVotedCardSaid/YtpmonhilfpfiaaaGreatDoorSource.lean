/-
  'source' of the reference: the same as 'cheapest'.
-/
import Derived.Test.YtpmonhilfpfiaaaGreatDoorCheap
namespace Go.Proofs.YtpmonhilfpfiaaaGreatDoor
open Go.RowKit
set_option linter.unusedVariables false
set_option linter.unusedSimpArgs false

end Go.Proofs.YtpmonhilfpfiaaaGreatDoor
