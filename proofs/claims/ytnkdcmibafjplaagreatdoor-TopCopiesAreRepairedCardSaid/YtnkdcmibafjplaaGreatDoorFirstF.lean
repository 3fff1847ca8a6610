/-
  The first fault of some places: plain facts.
-/
import Derived.Test.YtnkdcmibafjplaaGreatDoorProg
namespace Go.Proofs.YtnkdcmibafjplaaGreatDoor

theorem getD_at {α : Type} (l : List α) (d : α) {i : Nat} (h : i < l.length) : l.getD i d = l[i] := by simp [List.getD, List.getElem?_eq_getElem h]
/-- The first number of f that is not 0, of the first n ones; else 0. -/
def firstF (f : Nat → Int) : Nat → Int
  | 0 => 0
  | n + 1 => if firstF f n = 0 then f n else firstF f n
theorem firstF_ok {f : Nat → Int} : ∀ {n : Nat}, (∀ j, j < n → f j = 0) → firstF f n = 0
  | 0, _ => rfl
  | n + 1, h => by rw [firstF, if_pos (firstF_ok fun j hj => h j (by omega)), h n (by omega)]
theorem firstF_at {f : Nat → Int} : ∀ {n i : Nat}, i < n → (∀ j, j < i → f j = 0) → f i ≠ 0 → firstF f n = f i
  | n + 1, i, hi, h, hf => by
    rw [firstF]
    by_cases e : i = n
    · subst e; rw [if_pos (firstF_ok h)]
    · have := firstF_at (n := n) (show i < n by omega) h hf
      rw [if_neg (by rw [this]; exact hf), this]
theorem firstF_all {f : Nat → Int} : ∀ {n : Nat}, firstF f n = 0 → ∀ j, j < n → f j = 0
  | n + 1, h, j, hj => by
    rw [firstF] at h
    split at h
    · rename_i e
      by_cases ej : j = n
      · subst ej; exact h
      · exact firstF_all e j (by omega)
    · rename_i e; exact absurd h e
theorem firstF_step {f : Nat → Int} {i : Nat} (h : ∀ j, j < i → f j = 0) (hf : f i = 0) : ∀ j, j < i + 1 → f j = 0 := by
  intro j hj
  by_cases e : j = i
  · subst e; exact hf
  · exact h j (by omega)
end Go.Proofs.YtnkdcmibafjplaaGreatDoor
