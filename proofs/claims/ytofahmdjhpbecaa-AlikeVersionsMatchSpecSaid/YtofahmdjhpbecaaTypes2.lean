/-
  The readings of pieces and versions.
-/
import Derived.Test.YtofahmdjhpbecaaTypes
import Derived.Test.YtofahmdjhpbecaaDelta
namespace Go.Proofs.Ytofahmdjhpbecaa
open Go.RowKit

theorem opens_cp : Opens Try.prog 93 cpRp := by
  refine opens_via _ (fun p => ⟨p.1, p.2.1, p.2.2⟩) (fun _ => rfl) ?_
  refine opens_struct Try.underlying93 (by kernel_rfl) ?_
  refine opensF_cons (by rfl) (by kernel_rfl) (opens_int Try.underlying3) ?_
  refine opensF_cons (by rfl) (by kernel_rfl) (opens_int Try.underlying3) ?_
  exact opensF_one (by rfl) (by kernel_rfl) opens_bytes
theorem opens_cps : Opens Try.prog 40 (Rp.sl cpRp) := opens_sl Try.underlying40 (by kernel_rfl) (by decide) (of_decide_eq_true (by kernel_rfl)) opens_cp

end Go.Proofs.Ytofahmdjhpbecaa
