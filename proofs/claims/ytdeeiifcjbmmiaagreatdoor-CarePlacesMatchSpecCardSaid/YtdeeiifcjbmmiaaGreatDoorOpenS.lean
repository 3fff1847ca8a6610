/-
  How sites open.
-/
import Derived.Test.YtdeeiifcjbmmiaaGreatDoorItems
namespace Go.Proofs.YtdeeiifcjbmmiaaGreatDoor
open Go.RowKit

theorem opens_site : Opens Tryz.prog 48 siteRp := by
  refine opens_via _ (fun (p : ByteArray × Int × Int) => ⟨p.1.data.toList, p.2.1, p.2.2⟩) (fun p => by rw [bstr_eq]) ?_
  refine opens_struct Tryz.underlying48 (by kernel_rfl) ?_
  refine opensF_cons (by rfl) (by kernel_rfl) (opens_str Tryz.underlying9) ?_
  refine opensF_cons (by rfl) (by kernel_rfl) (opens_int Tryz.underlying3) ?_
  exact opensF_one (by rfl) (by kernel_rfl) (opens_int Tryz.underlying3)
theorem opens_sites : Opens Tryz.prog 22 (Rp.sl siteRp) := opens_sl Tryz.underlying22 (by kernel_rfl) (by decide) (of_decide_eq_true (by kernel_rfl)) opens_site
end Go.Proofs.YtdeeiifcjbmmiaaGreatDoor
