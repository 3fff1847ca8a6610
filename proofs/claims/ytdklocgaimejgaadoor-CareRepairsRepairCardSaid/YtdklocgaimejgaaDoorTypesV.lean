/-
  The readings of sites and copies.
-/
import Derived.Test.YtdklocgaimejgaaDoorProg
import Derived.Test.YtdklocgaimejgaaDoorTypesC
import Derived.Test.YtdklocgaimejgaaDoorSites
import Derived.Test.YtdklocgaimejgaaDoorHeld
namespace Go.Proofs.YtdklocgaimejgaaDoor
open Go.RowKit

theorem opens_site : Opens Tryd.prog 55 siteRp := by
  refine opens_via _ (fun (p : ByteArray × Int × Int) => ⟨p.1.data.toList, p.2.1, p.2.2⟩) (fun p => by rw [bstr_eq]) ?_
  refine opens_struct Tryd.underlying55 (by kernel_rfl) ?_
  refine opensF_cons (by rfl) (by kernel_rfl) (opens_str Tryd.underlying9) ?_
  refine opensF_cons (by rfl) (by kernel_rfl) (opens_int Tryd.underlying3) ?_
  exact opensF_one (by rfl) (by kernel_rfl) (opens_int Tryd.underlying3)
theorem opens_sites : Opens Tryd.prog 22 (Rp.sl siteRp) := opens_sl Tryd.underlying22 (by kernel_rfl) (by decide) (of_decide_eq_true (by kernel_rfl)) opens_site
theorem opens_held : Opens Tryd.prog 47 heldRp := by
  refine opens_via _ (fun (p : ByteArray × ByteArray × ByteArray) => ⟨p.1.data.toList, p.2.1.data.toList, p.2.2.data.toList⟩) (fun p => by rw [bstr_eq, bstr_eq, bstr_eq]) ?_
  refine opens_struct Tryd.underlying47 (by kernel_rfl) ?_
  refine opensF_cons (by rfl) (by kernel_rfl) (opens_str Tryd.underlying9) ?_
  refine opensF_cons (by rfl) (by kernel_rfl) (opens_str Tryd.underlying9) ?_
  exact opensF_one (by rfl) (by kernel_rfl) (opens_str Tryd.underlying9)
theorem opens_helds : Opens Tryd.prog 23 (Rp.sl heldRp) := opens_sl Tryd.underlying23 (by kernel_rfl) (by decide) (of_decide_eq_true (by kernel_rfl)) opens_held
end Go.Proofs.YtdklocgaimejgaaDoor
