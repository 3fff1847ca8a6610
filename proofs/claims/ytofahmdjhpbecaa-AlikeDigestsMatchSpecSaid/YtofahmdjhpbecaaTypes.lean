/-
  The readings of this seat's argument types.
-/
import Derived.Test.YtofahmdjhpbecaaProg
import Derived.Test.YtofahmdjhpbecaaOpen
namespace Go.Proofs.Ytofahmdjhpbecaa
open Go.RowKit

theorem opens_bytes : Opens Try.prog 22 (Rp.sl Rp.u8) := opens_sl Try.underlying22 (by kernel_rfl) (by decide) (of_decide_eq_true (by kernel_rfl)) (opens_u8 Try.underlying5)
theorem opens_bytess : Opens Try.prog 23 (Rp.sl (Rp.sl Rp.u8)) := opens_sl Try.underlying23 (by kernel_rfl) (by decide) (of_decide_eq_true (by kernel_rfl)) opens_bytes

end Go.Proofs.Ytofahmdjhpbecaa
