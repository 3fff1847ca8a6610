/-
  The readings of versions.
-/
import Derived.Test.YtofahmdjhpbecaaTypes2
import Derived.Test.YtofahmdjhpbecaaVerPlain
namespace Go.Proofs.Ytofahmdjhpbecaa
open Go.RowKit

theorem opens_ver : Opens Try.prog 118 verRp := by
  refine opens_via _ (fun p => ⟨p.1, p.2.1, p.2.2⟩) (fun _ => rfl) ?_
  refine opens_struct Try.underlying118 (by kernel_rfl) ?_
  refine opensF_cons (by rfl) (by kernel_rfl) (opens_bool Try.underlying4) ?_
  refine opensF_cons (by rfl) (by kernel_rfl) opens_bytes ?_
  exact opensF_one (by rfl) (by kernel_rfl) opens_cps
theorem opens_vers : Opens Try.prog 70 (Rp.sl verRp) := opens_sl Try.underlying70 (by kernel_rfl) (by decide) (of_decide_eq_true (by kernel_rfl)) opens_ver
end Go.Proofs.Ytofahmdjhpbecaa
