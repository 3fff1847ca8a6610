/-
  The readings of this seat's argument types.
-/
import Derived.Test.YtllbklnljmgppaaProg
import Derived.Test.YtllbklnljmgppaaOpen
namespace Go.Proofs.Ytllbklnljmgppaa
open Go.RowKit

theorem opens_bytes : Opens Try.prog 70 (Rp.sl Rp.u8) := opens_sl Try.underlying70 (by kernel_rfl) (by decide) (of_decide_eq_true (by kernel_rfl)) (opens_u8 Try.underlying5)
theorem opens_u64s : Opens Try.prog 22 (Rp.sl (Rp.int .u64)) := opens_sl Try.underlying22 (by kernel_rfl) (by decide) (of_decide_eq_true (by kernel_rfl)) (opens_int Try.underlying27)
theorem opens_u64ss : Opens Try.prog 61 (Rp.sl (Rp.sl (Rp.int .u64))) := opens_sl Try.underlying61 (by kernel_rfl) (by decide) (of_decide_eq_true (by kernel_rfl)) opens_u64s

end Go.Proofs.Ytllbklnljmgppaa
