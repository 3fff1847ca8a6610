/-
  Rotations of a part of an array by exchanges: plain facts for the stable sort.
-/
import Derived.Sort.Statements
import Derived.Sort.LotA
namespace Go.Proofs.YtdeeiifcjbmmiaaDoor
open Go.Sort
set_option linter.unusedVariables false
variable {α : Type} [Inhabited α]

theorem arr_ext {d e : Array α} (hs : d.size = e.size) (h : ∀ k, k < d.size → d[k]! = e[k]!) : d = e := by
  refine Array.ext hs fun k h1 h2 => ?_
  have := h k h1
  rwa [getElem!_pos d k h1, getElem!_pos e k h2] at this
theorem size_swp' (d : Array α) (i j : Nat) : (swp d i j).size = d.size := by simp [swp]
theorem get_set (d : Array α) (i k : Nat) (v : α) (hk : k < d.size) : (d.setIfInBounds i v)[k]! = if k = i then v else d[k]! := by
  rw [getElem!_pos _ k (by rw [Array.size_setIfInBounds]; exact hk), Array.getElem_setIfInBounds hk]
  by_cases h : i = k
  · rw [if_pos h, if_pos h.symm]
  · rw [if_neg h, if_neg (fun e => h e.symm), getElem!_pos d k hk]
theorem get_swp (d : Array α) (i j k : Nat) (hi : i < d.size) (hj : j < d.size) (hk : k < d.size) : (swp d i j)[k]! = if k = j then d[i]! else if k = i then d[j]! else d[k]! := by
  unfold swp
  rw [get_set _ _ _ _ (by rw [Array.size_setIfInBounds]; exact hk), get_set _ _ _ _ hk]

/-- d with the parts [a, m) and [m, b) exchanged. -/
def rotS (d : Array α) (a m b : Nat) : Array α :=
  Array.ofFn (n := d.size) fun k => if k.1 < a then d[k.1]! else if k.1 < a + (b - m) then d[k.1 + (m - a)]! else if k.1 < b then d[k.1 - (b - m)]! else d[k.1]!
theorem size_rotS (d : Array α) (a m b : Nat) : (rotS d a m b).size = d.size := by simp [rotS]
theorem get_rotS (d : Array α) (a m b k : Nat) (hk : k < d.size) : (rotS d a m b)[k]! = if k < a then d[k]! else if k < a + (b - m) then d[k + (m - a)]! else if k < b then d[k - (b - m)]! else d[k]! := by
  rw [getElem!_pos _ k (by rw [size_rotS]; exact hk)]
  unfold rotS
  rw [Array.getElem_ofFn]
def swapR (d : Array α) (x y : Nat) : Nat → Array α
  | 0 => d
  | n + 1 => swp (swapR d x y n) (x + n) (y + n)
theorem size_swapR (d : Array α) (x y : Nat) : ∀ n, (swapR d x y n).size = d.size
  | 0 => rfl
  | n + 1 => by rw [swapR, size_swp', size_swapR d x y n]
theorem get_swapR (d : Array α) (x y : Nat) : ∀ n, x + n ≤ y → y + n ≤ d.size → ∀ k, k < d.size → (swapR d x y n)[k]! = if x ≤ k ∧ k < x + n then d[k - x + y]! else if y ≤ k ∧ k < y + n then d[k - y + x]! else d[k]!
  | 0, _, _, k, _ => by rw [swapR, if_neg (by omega), if_neg (by omega)]
  | n + 1, h1, h2, k, hk => by
    have ih := get_swapR d x y n (by omega) (by omega)
    have hs := size_swapR d x y n
    have hx : x + n < (swapR d x y n).size := by omega
    have hy : y + n < (swapR d x y n).size := by omega
    have hk' : k < (swapR d x y n).size := by omega
    have ix := ih (x + n) (by omega)
    have iy := ih (y + n) (by omega)
    have ik := ih k hk
    rw [if_neg (by omega), if_neg (by omega)] at ix
    rw [if_neg (by omega), if_neg (by omega)] at iy
    rw [swapR, get_swp _ _ _ _ hx hy hk']
    by_cases e1 : k = y + n
    · rw [if_pos e1, ix, if_neg (show ¬(x ≤ k ∧ k < x + (n + 1)) by omega), if_pos (show y ≤ k ∧ k < y + (n + 1) by omega)]
      congr 1; omega
    · rw [if_neg e1]
      by_cases e2 : k = x + n
      · rw [if_pos e2, iy, if_pos (show x ≤ k ∧ k < x + (n + 1) by omega)]
        congr 1; omega
      · rw [if_neg e2, ik]
        by_cases c1 : x ≤ k ∧ k < x + n
        · rw [if_pos c1, if_pos (show x ≤ k ∧ k < x + (n + 1) by omega)]
        · rw [if_neg c1, if_neg (show ¬(x ≤ k ∧ k < x + (n + 1)) by omega)]
          by_cases c2 : y ≤ k ∧ k < y + n
          · rw [if_pos c2, if_pos (show y ≤ k ∧ k < y + (n + 1) by omega)]
          · rw [if_neg c2, if_neg (show ¬(y ≤ k ∧ k < y + (n + 1)) by omega)]
/-- The last step of a rotation. -/
theorem rot_end (d : Array α) (m i : Nat) (h1 : i ≤ m) (h2 : m + i ≤ d.size) : swapR d (m - i) m i = rotS d (m - i) m (m + i) := by
  refine arr_ext (by rw [size_swapR, size_rotS]) fun k hk => ?_
  rw [size_swapR] at hk
  rw [get_swapR d _ _ _ (by omega) h2 k hk, get_rotS d _ _ _ k hk]
  repeat' split
  all_goals (first | rfl | (congr 1; omega) | (exfalso; omega))
/-- .. where the left part is the longer one. -/
theorem rot_left (d : Array α) (m i j : Nat) (h1 : i ≤ m) (h2 : m + j ≤ d.size) (hij : j < i) : rotS (swapR d (m - i) m j) (m - (i - j)) m (m + j) = rotS d (m - i) m (m + j) := by
  refine arr_ext (by rw [size_rotS, size_swapR, size_rotS]) fun k hk => ?_
  rw [size_rotS, size_swapR] at hk
  have hsw := get_swapR d (m - i) m j (by omega) h2
  rw [get_rotS _ _ _ _ k (by rw [size_swapR]; exact hk), get_rotS d _ _ _ k hk]
  split
  · rw [hsw _ (by omega)]
    repeat' split
    all_goals (first | rfl | (congr 1; omega) | (exfalso; omega))
  · split
    · rw [hsw _ (by omega)]
      repeat' split
      all_goals (first | rfl | (congr 1; omega) | (exfalso; omega))
    · split
      · rw [hsw _ (by omega)]
        repeat' split
        all_goals (first | rfl | (congr 1; omega) | (exfalso; omega))
      · rw [hsw _ (by omega)]
        repeat' split
        all_goals (first | rfl | (congr 1; omega) | (exfalso; omega))
/-- .. where the right part is the longer one. -/
theorem rot_right (d : Array α) (m i j : Nat) (h1 : i ≤ m) (h2 : m + j ≤ d.size) (hij : i < j) : rotS (swapR d (m - i) (m + j - i) i) (m - i) m (m + (j - i)) = rotS d (m - i) m (m + j) := by
  refine arr_ext (by rw [size_rotS, size_swapR, size_rotS]) fun k hk => ?_
  rw [size_rotS, size_swapR] at hk
  have hsw := get_swapR d (m - i) (m + j - i) i (by omega) (by omega)
  rw [get_rotS _ _ _ _ k (by rw [size_swapR]; exact hk), get_rotS d _ _ _ k hk]
  split
  · rw [hsw _ (by omega)]
    repeat' split
    all_goals (first | rfl | (congr 1; omega) | (exfalso; omega))
  · split
    · rw [hsw _ (by omega)]
      repeat' split
      all_goals (first | rfl | (congr 1; omega) | (exfalso; omega))
    · split
      · rw [hsw _ (by omega)]
        repeat' split
        all_goals (first | rfl | (congr 1; omega) | (exfalso; omega))
      · rw [hsw _ (by omega)]
        repeat' split
        all_goals (first | rfl | (congr 1; omega) | (exfalso; omega))
/-- The first element goes up, place by place. -/
theorem rot_up0 (d : Array α) (a : Nat) : rotS d a (a + 1) (a + 1) = d := by
  refine arr_ext (by rw [size_rotS]) fun k hk => ?_
  rw [size_rotS] at hk
  rw [get_rotS d _ _ _ k hk]
  repeat' split
  all_goals (first | rfl | (congr 1; omega) | (exfalso; omega))
theorem rot_up (d : Array α) (a k : Nat) (h : a ≤ k) (hk : k + 1 < d.size) : swp (rotS d a (a + 1) (k + 1)) k (k + 1) = rotS d a (a + 1) (k + 2) := by
  refine arr_ext (by rw [size_swp', size_rotS, size_rotS]) fun x hx => ?_
  rw [size_swp', size_rotS] at hx
  rw [get_swp _ _ _ _ (by rw [size_rotS]; omega) (by rw [size_rotS]; omega) (by rw [size_rotS]; omega), get_rotS d _ _ _ x hx, get_rotS d _ _ _ k (by omega), get_rotS d _ _ _ (k + 1) (by omega), get_rotS d _ _ _ x hx]
  repeat' split
  all_goals (first | rfl | (congr 1; omega) | (exfalso; omega))
/-- The last element goes down, place by place. -/
theorem rot_down0 (d : Array α) (m : Nat) : rotS d m m (m + 1) = d := by
  refine arr_ext (by rw [size_rotS]) fun k hk => ?_
  rw [size_rotS] at hk
  rw [get_rotS d _ _ _ k hk]
  repeat' split
  all_goals (first | rfl | (congr 1; omega) | (exfalso; omega))
theorem rot_down (d : Array α) (m k : Nat) (h : k < m) (hk : m < d.size) : swp (rotS d (k + 1) m (m + 1)) (k + 1) k = rotS d k m (m + 1) := by
  refine arr_ext (by rw [size_swp', size_rotS, size_rotS]) fun x hx => ?_
  rw [size_swp', size_rotS] at hx
  rw [get_swp _ _ _ _ (by rw [size_rotS]; omega) (by rw [size_rotS]; omega) (by rw [size_rotS]; omega), get_rotS d _ _ _ x hx, get_rotS d _ _ _ (k + 1) (by omega), get_rotS d _ _ _ k (by omega), get_rotS d _ _ _ x hx]
  repeat' split
  all_goals (first | rfl | (congr 1; omega) | (exfalso; omega))
end Go.Proofs.YtdeeiifcjbmmiaaDoor
