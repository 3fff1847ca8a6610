/-
  The reading of changes, with its bulk.
-/
import Derived.Test.YtofahmdjhpbecaaTypes
import Derived.Test.YtofahmdjhpbecaaBulk
import Derived.Test.YtofahmdjhpbecaaAppPlain
namespace Go.Proofs.Ytofahmdjhpbecaa
open Go.RowKit

def chBulk (c : Ch) : Nat := 0 + ((c.ls.map bstr).map (fun s => s.size)).sum
theorem opens_ch : OpensB Try.prog 109 chRp chBulk := by
  refine opensB_via (B := fun p : Int × List ByteArray => 0 + (p.2.map (fun s => s.size)).sum) _ (fun p : Int × List ByteArray => ⟨p.1, p.2.map (·.data.toList)⟩) (fun p => ?_) ?_
  · obtain ⟨k, l⟩ := p
    show (k, (l.map (·.data.toList)).map bstr) = (k, l)
    rw [List.map_map]
    exact congrArg (fun m => (k, m)) ((List.map_congr_left (fun x _ => bstr_eq x)).trans (List.map_id l))
  refine opensB_struct Try.underlying109 (by kernel_rfl) ?_
  refine opensFB_cons (B := fun _ => 0) (C := fun l => (l.map (fun s => s.size)).sum) (by rfl) (by kernel_rfl) (opens_int Try.underlying3).bulk ?_ (fun _ _ => Nat.le_refl _)
  exact opensFB_one (by rfl) (by kernel_rfl) (opensB_sl Try.underlying53 (by kernel_rfl) (by decide) (of_decide_eq_true (by kernel_rfl)) (opensB_str Try.underlying9))
theorem opens_chs : OpensB Try.prog 57 (Rp.sl chRp) (fun l => (l.map chBulk).sum) := opensB_sl Try.underlying57 (by kernel_rfl) (by decide) (of_decide_eq_true (by kernel_rfl)) opens_ch
theorem chBulk_is (c : Ch) : chBulk c = c.ls.flatten.length := by
  unfold chBulk
  rw [Nat.zero_add, List.map_map, List.length_flatten]
  rfl
theorem keepL_bulk (g : Int) : ∀ l : List Ch, (keepL g l).flatten.length ≤ (l.map chBulk).sum
  | [] => by simp [keepL_nil]
  | c :: l => by
    have ih := keepL_bulk g l
    rw [keepL_cons, List.flatten_append, List.length_append, List.map_cons, List.sum_cons, chBulk_is]
    split
    · show 0 + _ ≤ _
      omega
    · omega
end Go.Proofs.Ytofahmdjhpbecaa
