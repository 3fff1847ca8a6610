/-
  The readings of this seat's argument types.
-/
import Derived.Test.YtofahmdjhpbecaaProg
import Derived.Test.YtofahmdjhpbecaaOpen
namespace Go.Proofs.Ytofahmdjhpbecaa
open Go.RowKit

theorem opens_bytes : Opens Try.prog 22 (Rp.sl Rp.u8) := opens_sl Try.underlying22 (by kernel_rfl) (by decide) (of_decide_eq_true (by kernel_rfl)) (opens_u8 Try.underlying5)
theorem opens_bytess : Opens Try.prog 23 (Rp.sl (Rp.sl Rp.u8)) := opens_sl Try.underlying23 (by kernel_rfl) (by decide) (of_decide_eq_true (by kernel_rfl)) opens_bytes
theorem opens_u64s : Opens Try.prog 87 (Rp.sl (Rp.int .u64)) := opens_sl Try.underlying87 (by kernel_rfl) (by decide) (of_decide_eq_true (by kernel_rfl)) (opens_int Try.underlying48)
theorem opens_u64ss : Opens Try.prog 32 (Rp.sl (Rp.sl (Rp.int .u64))) := opens_sl Try.underlying32 (by kernel_rfl) (by decide) (of_decide_eq_true (by kernel_rfl)) opens_u64s

end Go.Proofs.Ytofahmdjhpbecaa
