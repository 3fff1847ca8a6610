/-
  A call that only lays new blocks and draws. Over any program.
-/
import Derived.Test.YtdeeiifcjbmmiaaDoorBase
import Derived.Sort.Grow
namespace Go.Proofs.YtdeeiifcjbmmiaaDoor
open Go.RowKit Go.Sort
set_option linter.unusedVariables false

/-- What stood stays, and the draws only go on. -/
def BG (w w' : World) : Prop := Below w.heap.size w w' ∧ w.drawn ≤ w'.drawn
theorem BG.refl (w : World) : BG w w := ⟨Below.refl _ _, Nat.le_refl _⟩
theorem BG.trans {a b c : World} (h : BG a b) (k : BG b c) : BG a c := ⟨ext_trans h.1 k.1, Nat.le_trans h.2 k.2⟩
theorem BG.alloc {w w' : World} (h : BG w w') (o : Obj) : BG w (w'.alloc o) := ⟨h.1.alloc h.1.size o, h.2⟩
theorem BG.drewN {w w' : World} (h : BG w w') (n : Nat) : BG w (w'.drewN n) := ⟨below_drewN h.1 n, Nat.le_trans h.2 (Nat.le_add_right _ _)⟩
theorem BG.drew {w w' : World} (h : BG w w') : BG w w'.drew := h.drewN 1
theorem BG.set_ {w w' : World} (h : BG w w') {a : Addr} (ha : w.heap.size ≤ a.block) (v : Value) : BG w (w'.setCell a v) := ⟨h.1.setCell ha v, h.2⟩
theorem BG.gr {w w' : World} (h : BG w w') : ∃ q os, w' = grow (w.drewN q) os := by
  refine ⟨w'.drawn - w.drawn, w'.heap.extract w.heap.size w'.heap.size, ?_⟩
  have h1 := h.1.os
  have h2 := h.1.tape
  have h3 := h.1.output
  have h4 := h.1.size
  have h5 := h.1.block
  have h6 := h.2
  obtain ⟨hp, tp, dr, o, ou⟩ := w
  obtain ⟨hp', tp', dr', o', ou'⟩ := w'
  simp only at h1 h2 h3 h4 h5 h6
  subst h1 h2 h3
  have hh : hp' = hp ++ hp'.extract hp.size hp'.size := by
    apply Array.ext_getElem?
    intro i
    rw [Array.getElem?_append]
    by_cases hi : i < hp.size
    · rw [if_pos hi]; exact h5 i hi
    · rw [if_neg hi, Array.getElem?_extract]
      by_cases hj : i < hp'.size
      · rw [if_pos (by omega)]; congr 1; omega
      · rw [if_neg (by omega), Array.getElem?_eq_none (by omega)]
  have hd : dr' = dr + (dr' - dr) := by omega
  show (⟨hp', _, dr', _, _⟩ : World) = ⟨hp ++ hp'.extract hp.size hp'.size, _, dr + (dr' - dr), _, _⟩
  rw [← hh, ← hd]
  rfl
end Go.Proofs.YtdeeiifcjbmmiaaDoor
