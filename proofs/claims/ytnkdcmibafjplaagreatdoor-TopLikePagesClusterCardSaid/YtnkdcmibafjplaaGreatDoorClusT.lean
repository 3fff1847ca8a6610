/-
  How the arguments of the laws on Clusters read.
-/
import Derived.Test.YtnkdcmibafjplaaGreatDoorClusF
import Derived.Test.YtnkdcmibafjplaaGreatDoorOpen
namespace Go.Proofs.YtnkdcmibafjplaaGreatDoor
open Go.RowKit
set_option linter.unusedVariables false

def ratRp : Rp (Int × Int) := Rp.pair (Rp.int .i64) (Rp.int .i64)
theorem opens_rat : Opens Tryz.prog 24 ratRp := by
  refine opens_struct Tryz.underlying24 (by kernel_rfl) ?_
  refine opensF_cons (by rfl) (by kernel_rfl) (opens_int Tryz.underlying3) ?_
  exact opensF_one (by rfl) (by kernel_rfl) (opens_int Tryz.underlying3)
theorem opens_strsC : Opens Tryz.prog 22 (Rp.sl Rp.str) := opens_sl Tryz.underlying22 (by kernel_rfl) (by decide) (of_decide_eq_true (by kernel_rfl)) (opens_str Tryz.underlying9)
theorem rat_open {w : World} {S : Nat → Prop} {cs : Array Value} {p : Int × Int} (h : ratRp.ok w S cs.toList p) : cs = #[.int .i64 p.1, .int .i64 p.2] := by
  obtain ⟨c, d, e, ⟨h1, _⟩, ⟨h2, _⟩⟩ := h
  apply Array.toList_inj.1
  rw [e, h1, h2]; rfl
theorem strs_back (l : List ByteArray) : (l.map (·.data.toList)).map bstr = l := by
  rw [List.map_map]
  conv => rhs; rw [← List.map_id l]
  exact List.map_congr_left fun s _ => bstr_eq s
theorem clO_small {ls : List (List UInt8)} {n num den : Int} : ∀ g ∈ clO ls n num den, ∀ k ∈ g, k ≤ 1000 := by
  intro g hg k hk
  unfold clO at hg
  split at hg
  · rename_i h
    have hl := (clF_good h).2.1
    unfold grps at hg
    obtain ⟨i, _, rfl⟩ := List.mem_map.1 hg
    unfold memL at hk
    have h1 := List.mem_range.1 (List.mem_filter.1 hk).1
    unfold clG at h1
    rw [gR_len] at h1
    omega
  · cases hg
end Go.Proofs.YtnkdcmibafjplaaGreatDoor
