/-
  A row that the call owns, of elements that read as Lean values and lie anywhere else. Over any program.
-/
import Derived.Test.YtnkdcmibafjplaaGreatDoorBase
namespace Go.Proofs.YtnkdcmibafjplaaGreatDoor
open Go.RowKit
set_option linter.unusedVariables false

section
variable {α : Type} {R : Rp α} {E : TypeId} {B : Nat} {w : World} {v : Value} {l : List α}
/-- v owns a row whose elements read as l; what they lead to lies outside of it. -/
def Rows (R : Rp α) (E : TypeId) (B : Nat) (w : World) (v : Value) (l : List α) : Prop :=
  ∃ xs, w.ownsRow B E R.sz v l.length xs ∧ ∀ (k : Nat) (h : k < l.length), R.ok w (fun b => b < w.heap.size ∧ v.ownBlock ≠ some b) ((xs.drop (k * R.sz)).take R.sz) l[k]
theorem Rows.nil (R : Rp α) (E : TypeId) (B : Nat) (w : World) : Rows R E B w (.slice none 0 0) [] := ⟨[], World.ownsRow_nil w B E R.sz, fun k h => absurd h (by simp)⟩
theorem below_grown {w w' : World} (h : Below w.heap.size w w') : w.grownBy w' none := ⟨h.os, h.tape, h.output, h.size, fun k hk _ => h.block k hk⟩
theorem Rows.kept {w' : World} (h : Rows R E B w v l) (hg : w.grownBy w' none) : Rows R E B w' v l := by
  obtain ⟨xs, h1, h2⟩ := h
  refine ⟨xs, h1.kept hg (by cases hv : v.ownBlock <;> simp), fun k hk => R.keep (h2 k hk) (fun b hb => hg.block b hb.1 (by simp)) (fun b hb => ⟨Nat.lt_of_lt_of_le hb.1 hg.size, hb.2⟩)⟩
theorem Rows.form (h : Rows R E B w v l) : ∃ A c, v = .slice A l.length c ∧ l.length ≤ c ∧ c ≤ maxLen ∧ (∀ g, v.ownBlock = some g → B ≤ g ∧ g < w.heap.size) := by
  obtain ⟨xs, h1, _⟩ := h
  exact own_form h1
theorem Rows.open_ (h : Rows R E B w v l) (hsz : 0 < R.sz) :
    ∃ xs, w.ownsRow B E R.sz v l.length xs ∧ ∀ (wA w' : World) (g c : Nat) (a : α) (us : List Value), w.grownBy wA none → R.ok wA (fun b => b < wA.heap.size ∧ v.ownBlock ≠ some b) us a → wA.grownBy w' v.ownBlock →
      w'.ownsRow B E R.sz (.slice (some ⟨g, 0, none⟩) (l.length + 1) c) (l.length + 1) (xs ++ us) → (v.ownBlock = some g ∨ wA.heap.size ≤ g) → Rows R E B w' (.slice (some ⟨g, 0, none⟩) (l.length + 1) c) (l ++ [a]) := by
  obtain ⟨xs, h1, h2⟩ := h
  refine ⟨xs, h1, fun wA w' g c a us hA hu hw hown hloc => ⟨xs ++ us, by rw [List.length_append, List.length_singleton]; exact hown, fun k hk => ?_⟩⟩
  have hxl : xs.length = l.length * R.sz := h1.1
  have hul : us.length = R.sz := R.len hu
  have hS : ∀ b, (b < wA.heap.size ∧ v.ownBlock ≠ some b) → (b < w'.heap.size ∧ (Value.slice (some ⟨g, 0, none⟩) (l.length + 1) c).ownBlock ≠ some b) := fun b hb =>
    ⟨Nat.lt_of_lt_of_le hb.1 hw.size, fun e => by
      have e1 : g = b := Option.some.inj e
      rcases hloc with h | h
      · exact hb.2 (by rw [h, e1])
      · omega⟩
  have hsame : Same (fun b => b < wA.heap.size ∧ v.ownBlock ≠ some b) wA w' := fun b hb => hw.block b hb.1 (fun e => hb.2 e.symm)
  by_cases hkl : k < l.length
  · have e1 : (l ++ [a])[k] = l[k] := List.getElem_append_left hkl
    have hm : k * R.sz + R.sz ≤ l.length * R.sz := by rw [← Nat.succ_mul]; exact Nat.mul_le_mul_right _ hkl
    rw [e1, List.drop_append_of_le_length (by omega), List.take_append_of_le_length (by rw [List.length_drop]; omega)]
    exact R.keep (R.keep (h2 k hkl) (fun b hb => hA.block b hb.1 (by simp)) (fun b hb => ⟨Nat.lt_of_lt_of_le hb.1 hA.size, hb.2⟩)) hsame hS
  · have hke : k = l.length := by rw [List.length_append, List.length_singleton] at hk; omega
    subst hke
    have e1 : (l ++ [a])[l.length] = a := by simp
    rw [e1, ← hxl, List.drop_left, List.take_of_length_le (by omega)]
    exact R.keep hu hsame hS
theorem Rows.read (h : Rows R E B w v l) (hsz : 0 < R.sz) : (Rp.sl R).ok w (· < w.heap.size) [v] l := by
  obtain ⟨xs, h1, h2⟩ := h
  exact Rp.of_own hsz h1 (fun g hg => (h1.lt g hg).2) (fun k hk => R.sub (h2 k hk) (fun b hb => hb.1))
end
end Go.Proofs.YtnkdcmibafjplaaGreatDoor
