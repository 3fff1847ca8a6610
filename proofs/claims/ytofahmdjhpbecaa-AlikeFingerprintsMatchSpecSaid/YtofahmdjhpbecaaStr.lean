/-
  '[]byte(s)'.
-/
import Derived.Test.YtofahmdjhpbecaaProg
import Derived.Test.YtofahmdjhpbecaaBase
namespace Go.Proofs.Ytofahmdjhpbecaa
open Go.RowKit
set_option linter.unusedVariables false
set_option linter.unusedSimpArgs false
theorem conv_str {P : Program} (w : World) (src dst e : TypeId) (bs : List UInt8) (hs : P.underlying src = some .string) (hd : P.underlying dst = some (.slice e)) (he : P.underlying e = some (.int .u8)) (hl : bs.length ≤ maxLen) :
    ∃ c w', (convert src dst (.string (bstr bs))).run P w = .ok (.slice (some ⟨w.heap.size, 0, none⟩) bs.length c) w' ∧ (Rp.sl Rp.u8).ok w' (fun _ => True) [.slice (some ⟨w.heap.size, 0, none⟩) bs.length c] bs ∧ ∀ B w0, B ≤ w.heap.size → Below B w0 w → Below B w0 w' := by
  refine ⟨_, _, run_bytes_of_string w src dst e (bstr bs) hs hd he, ?_, fun B w0 h1 h2 => ?_⟩
  · refine ⟨_, _, rfl, grownCap_ge w (bstr bs).size 0 e, grownCap_le_maxLen w _ 0 e hl, by simp, fun j hj => ⟨_, _, rfl, trivial, rfl, fun i u hu => ?_⟩⟩
    have hi : i = 0 := by
      match i, hu with
      | 0, _ => rfl
    subst hi
    have hadd : (⟨w.heap.size, 0, none⟩ : Addr).add (j * Rp.u8.sz + 0) = ⟨w.heap.size, j, none⟩ := by unfold Addr.add; simp only [Rp.u8, Nat.mul_one, Nat.add_zero]; split <;> simp_all
    rw [hadd, ← hu]
    exact (cell_of_row _ _ j _ e _ (heap_alloc_new w.drew _)).trans (bytesRow_at (bstr bs) _ j hj)
  · exact Below.alloc (below_drewN h2 1) h1 _
end Go.Proofs.Ytofahmdjhpbecaa
