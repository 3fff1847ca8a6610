/-
  'CheckCopies' of both packages.
-/
import Derived.Test.YtdeeiifcjbmmiaaDoorProg
import Derived.Test.YtdeeiifcjbmmiaaDoorSiteAt
import Derived.Test.YtdeeiifcjbmmiaaDoorHeld
namespace Go.Proofs.YtdeeiifcjbmmiaaDoor
open Go.RowKit
set_option linter.unusedVariables false
set_option linter.unusedSimpArgs false

theorem scmp_cases : ∀ a b : List UInt8, (scmp a b = -1 ∧ Op.bytesLess a b = true ∧ Op.bytesLess b a = false ∧ a ≠ b) ∨ (scmp a b = 0 ∧ Op.bytesLess a b = false ∧ Op.bytesLess b a = false ∧ a = b) ∨ (scmp a b = 1 ∧ Op.bytesLess a b = false ∧ Op.bytesLess b a = true ∧ a ≠ b)
  | [], [] => .inr (.inl ⟨rfl, rfl, rfl, rfl⟩)
  | [], _ :: _ => .inl ⟨rfl, rfl, rfl, by simp⟩
  | _ :: _, [] => .inr (.inr ⟨rfl, rfl, rfl, by simp⟩)
  | a :: x, b :: y => by
    have ih := scmp_cases x y
    unfold scmp at ih ⊢
    rw [Lib.compareBytes, Op.bytesLess, Op.bytesLess]
    by_cases h1 : a < b
    · have h2 : ¬ b < a := fun h => absurd (UInt8.lt_trans h1 h) (UInt8.lt_irrefl _)
      have h3 : a ≠ b := fun e => by subst e; exact UInt8.lt_irrefl _ h1
      left
      rw [if_pos h1]
      refine ⟨rfl, by simp [h1], ?_, by simp [h3]⟩
      simp [h2, Ne.symm h3]
    · by_cases h2 : b < a
      · have h3 : b ≠ a := fun e => by subst e; exact UInt8.lt_irrefl _ h2
        right; right
        rw [if_neg h1, if_pos h2]
        exact ⟨rfl, by simp [h1, Ne.symm h3], by simp [h2], by simp [Ne.symm h3]⟩
      · have h3 : a = b := UInt8.le_antisymm (UInt8.not_lt.1 h2) (UInt8.not_lt.1 h1)
        subst h3
        rw [if_neg h1, if_neg h1]
        simpa [h1] using ih
/-- A copy does not come behind the one before it. -/
def heldBad (y x : Held) : Bool := slt x.item y.item || (x.item == y.item && sle x.site y.site)
theorem heldBad_cmp (y x : Held) : decide (heldCmp y x ≥ 0) = heldBad y x := by
  unfold heldCmp or2 heldBad slt sle
  rcases scmp_cases y.item x.item with ⟨h1, h2, h3, h4⟩ | ⟨h1, h2, h3, h4⟩ | ⟨h1, h2, h3, h4⟩
  · rw [h1, if_neg (by decide), h3, beq_eq_false_iff_ne.2 (Ne.symm h4)]; rfl
  · rw [h1, if_pos rfl, h3, h4, beq_self_eq_true]
    rcases scmp_cases y.site x.site with ⟨g1, g2, g3, g4⟩ | ⟨g1, g2, g3, g4⟩ | ⟨g1, g2, g3, g4⟩
    · rw [g1, g3, beq_eq_false_iff_ne.2 (Ne.symm g4)]; rfl
    · rw [g1, g3, g4, beq_self_eq_true]; rfl
    · rw [g1, g3]; rfl
  · rw [h1, if_neg (by decide), h3]; rfl
def heldF (s : List Site) (l : List Held) (i : Nat) : Int :=
  if isNm (l.getD i default).item = false then 5 else if siteIdx s (l.getD i default).site < 0 then 5 else if isDig (l.getD i default).digest = false then 3
  else if 0 < i ∧ heldBad (l.getD (i - 1) default) (l.getD i default) = true then 8 else 0
def copiesFault (s : List Site) (l : List Held) : Int := if sitesFault s ≠ 0 then sitesFault s else if 3000 < l.length then 2 else firstF (heldF s l) l.length
section
variable {s : List Site} {l : List Held} {i : Nat}
theorem heldF_1 (hi : i < l.length) (h : isNm l[i].item = false) : heldF s l i = 5 := by rw [heldF, getD_at _ _ hi, if_pos h]
theorem heldF_2 (hi : i < l.length) (h : isNm l[i].item = true) (h2 : siteIdx s l[i].site < 0) : heldF s l i = 5 := by
  rw [heldF, getD_at _ _ hi, if_neg (by rw [h]; decide), if_pos h2]
theorem heldF_3 (hi : i < l.length) (h : isNm l[i].item = true) (h2 : ¬ siteIdx s l[i].site < 0) (h3 : isDig l[i].digest = false) : heldF s l i = 3 := by
  rw [heldF, getD_at _ _ hi, if_neg (by rw [h]; decide), if_neg h2, if_pos h3]
theorem heldF_4 (hi : i < l.length) (h : isNm l[i].item = true) (h2 : ¬ siteIdx s l[i].site < 0) (h3 : isDig l[i].digest = true) (h4 : 0 < i) (h5 : heldBad (l[i - 1]'(by omega)) l[i] = true) : heldF s l i = 8 := by
  rw [heldF, getD_at _ _ hi, getD_at _ _ (show i - 1 < l.length by omega), if_neg (by rw [h]; decide), if_neg h2, if_neg (by rw [h3]; decide), if_pos ⟨h4, h5⟩]
theorem heldF_5 (hi : i < l.length) (h : isNm l[i].item = true) (h2 : ¬ siteIdx s l[i].site < 0) (h3 : isDig l[i].digest = true) (h4 : ¬ (0 < i ∧ heldBad (l[i - 1]'(by omega)) l[i] = true)) : heldF s l i = 0 := by
  rw [heldF, getD_at _ _ hi, getD_at _ _ (show i - 1 < l.length by omega), if_neg (by rw [h]; decide), if_neg h2, if_neg (by rw [h3]; decide), if_neg h4]
theorem copiesFault_at (h0 : sitesFault s = 0) (h3 : ¬ 3000 < l.length) (hi : i < l.length) (hS : ∀ j, j < i → heldF s l j = 0) {f : Int} (hf : heldF s l i = f) (hn : f ≠ 0) : copiesFault s l = f := by
  rw [copiesFault, if_neg (by rw [h0]; decide), if_neg h3, firstF_at hi hS (by rw [hf]; exact hn), hf]
theorem copiesFault_ok (h0 : sitesFault s = 0) (h3 : ¬ 3000 < l.length) (hS : ∀ j, j < l.length → heldF s l j = 0) : copiesFault s l = 0 := by
  rw [copiesFault, if_neg (by rw [h0]; decide), if_neg h3, firstF_ok hS]
end
theorem refIsNameB_any (t : List UInt8) (w : World) (ht : t.length ≤ 9223372036854775807) :
    Calls Tryd.prog 10 #[.string (bstr t)] w fun e w' => e = .returned (.bool (isNm t)) ∧ Below w.heap.size w w' :=
  (refIsName_any t w ht).mono fun e w' ⟨h1, h2⟩ => ⟨h1, h2 ▸ Below.refl _ _⟩
end Go.Proofs.YtdeeiifcjbmmiaaDoor
