/-
  The readings of this seat's argument types.
-/
import Derived.Test.YtdklocgaimejgaaDoorProg
import Derived.Test.YtdklocgaimejgaaDoorOpen
import Derived.Test.YtdklocgaimejgaaDoorAns
import Derived.Test.YtdklocgaimejgaaDoorLeaf
namespace Go.Proofs.YtdklocgaimejgaaDoor
open Go.RowKit

theorem opens_bytes : Opens Tryd.prog 111 (Rp.sl Rp.u8) := opens_sl Tryd.underlying111 (by kernel_rfl) (by decide) (of_decide_eq_true (by kernel_rfl)) (opens_u8 Tryd.underlying5)
theorem str_back (p : ByteArray × ByteArray) : (bstr p.1.data.toList, bstr p.2.data.toList) = p := by rw [bstr_eq, bstr_eq]
theorem opens_leaf : Opens Tryd.prog 89 leafRp := by
  refine opens_via _ (fun p => ⟨p.1.data.toList, p.2.data.toList⟩) str_back ?_
  refine opens_struct Tryd.underlying89 (by kernel_rfl) ?_
  refine opensF_cons (by rfl) (by kernel_rfl) (opens_str Tryd.underlying9) ?_
  exact opensF_one (by rfl) (by kernel_rfl) (opens_str Tryd.underlying9)
theorem opens_leaves : Opens Tryd.prog 79 (Rp.sl leafRp) := opens_sl Tryd.underlying79 (by kernel_rfl) (by decide) (of_decide_eq_true (by kernel_rfl)) opens_leaf
end Go.Proofs.YtdklocgaimejgaaDoor
