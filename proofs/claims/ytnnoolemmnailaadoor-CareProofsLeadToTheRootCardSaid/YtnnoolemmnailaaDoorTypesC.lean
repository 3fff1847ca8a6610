/-
  The readings of this seat's argument types.
-/
import Derived.Test.YtnnoolemmnailaaDoorProg
import Derived.Test.YtnnoolemmnailaaDoorOpen
import Derived.Test.YtnnoolemmnailaaDoorAns
import Derived.Test.YtnnoolemmnailaaDoorLeaf
namespace Go.Proofs.YtnnoolemmnailaaDoor
open Go.RowKit

theorem opens_bytes : Opens Tryd.prog 46 (Rp.sl Rp.u8) := opens_sl Tryd.underlying46 (by kernel_rfl) (by decide) (of_decide_eq_true (by kernel_rfl)) (opens_u8 Tryd.underlying5)
theorem str_back (p : ByteArray × ByteArray) : (bstr p.1.data.toList, bstr p.2.data.toList) = p := by rw [bstr_eq, bstr_eq]
theorem opens_rep : Opens Tryd.prog 130 repRp := by
  refine opens_via _ (fun p => ⟨p.1.data.toList, p.2.data.toList⟩) str_back ?_
  refine opens_struct Tryd.underlying130 (by kernel_rfl) ?_
  refine opensF_cons (by rfl) (by kernel_rfl) (opens_str Tryd.underlying9) ?_
  exact opensF_one (by rfl) (by kernel_rfl) (opens_str Tryd.underlying9)
theorem opens_reps : Opens Tryd.prog 47 (Rp.sl repRp) := opens_sl Tryd.underlying47 (by kernel_rfl) (by decide) (of_decide_eq_true (by kernel_rfl)) opens_rep
theorem opens_leaf : Opens Tryd.prog 33 leafRp := by
  refine opens_via _ (fun p => ⟨p.1.data.toList, p.2.data.toList⟩) str_back ?_
  refine opens_struct Tryd.underlying33 (by kernel_rfl) ?_
  refine opensF_cons (by rfl) (by kernel_rfl) (opens_str Tryd.underlying9) ?_
  exact opensF_one (by rfl) (by kernel_rfl) (opens_str Tryd.underlying9)
theorem opens_leaves : Opens Tryd.prog 22 (Rp.sl leafRp) := opens_sl Tryd.underlying22 (by kernel_rfl) (by decide) (of_decide_eq_true (by kernel_rfl)) opens_leaf
end Go.Proofs.YtnnoolemmnailaaDoor
