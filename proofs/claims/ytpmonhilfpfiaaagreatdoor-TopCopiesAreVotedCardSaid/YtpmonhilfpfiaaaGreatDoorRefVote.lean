/-
  'vote' of the reference: the vote on the copies of one item.
-/
import Derived.Test.YtpmonhilfpfiaaaGreatDoorProg
import Derived.Test.YtpmonhilfpfiaaaGreatDoorVote
namespace Go.Proofs.YtpmonhilfpfiaaaGreatDoor
open Go.RowKit
set_option linter.unusedVariables false
set_option linter.unusedSimpArgs false

end Go.Proofs.YtpmonhilfpfiaaaGreatDoor
