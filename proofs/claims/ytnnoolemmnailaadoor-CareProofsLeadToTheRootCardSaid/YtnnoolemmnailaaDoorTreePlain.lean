/-
  The trees of chapter 11, plainly: their rows, and how a leaf leads to the root.
-/
import Derived.Test.YtnnoolemmnailaaDoorLeaf
namespace Go.Proofs.YtnnoolemmnailaaDoor
open Go.RowKit
set_option linter.unusedVariables false
set_option linter.unusedSimpArgs false

abbrev Str8 := List UInt8
theorem getD_lt {α : Type} (l : List α) (i : Nat) (d : α) (h : i < l.length) : l.getD i d = l[i] := by simp [h]
theorem lastD_cons {α : Type} (a : α) (t : List α) (d e : α) : (a :: t).getLastD d = (a :: t).getLastD e := by rw [List.getLastD_cons, List.getLastD_cons]
/-- The digest of a leaf; the digest above two others. -/
def leafD (x : Leaf) : Str8 := digL ([108, 101, 97, 102, 32] ++ x.key ++ [32] ++ x.digest)
def nodeD (a b : Str8) : Str8 := digL ([110, 111, 100, 101, 32] ++ a ++ [32] ++ b)
theorem leafD_len (x : Leaf) : (leafD x).length = 16 := digL_len _
theorem nodeD_len (a b : Str8) : (nodeD a b).length = 16 := digL_len _
/-- The row above a row. -/
def up : List Str8 → List Str8
  | a :: b :: t => nodeD a b :: up t
  | [a] => [a]
  | [] => []
theorem up_len : ∀ r : List Str8, (up r).length = (r.length + 1) / 2
  | a :: b :: t => by rw [up, List.length_cons, up_len t, List.length_cons, List.length_cons]; omega
  | [a] => by simp [up]
  | [] => by simp [up]
theorem up_two : ∀ (r : List Str8) (i : Nat) (h : 2 * i + 1 < r.length), (up r)[i]'(by rw [up_len]; omega) = nodeD r[2 * i] r[2 * i + 1]
  | a :: b :: t, 0, h => rfl
  | a :: b :: t, i + 1, h => by
    have := up_two t i (by simp at h; omega)
    simp only [up, List.getElem_cons_succ]
    rw [this]; rfl
  | [a], i, h => by simp at h
  | [], i, h => by simp at h
theorem up_one : ∀ (r : List Str8) (i : Nat) (h : 2 * i + 1 = r.length), (up r)[i]'(by rw [up_len]; omega) = r[2 * i]
  | a :: b :: t, 0, h => by simp at h
  | a :: b :: t, i + 1, h => by
    have := up_one t i (by simp at h; omega)
    simp only [up, List.getElem_cons_succ]
    rw [this]; rfl
  | [a], 0, h => rfl
  | [a], i + 1, h => by simp at h
  | [], i, h => by simp at h
theorem up_all (r : List Str8) (P : Str8 → Prop) (hr : ∀ x ∈ r, P x) (hn : ∀ a b, P (nodeD a b)) : ∀ x ∈ up r, P x := by
  intro x hx
  obtain ⟨i, hi, rfl⟩ := List.getElem_of_mem hx
  rw [up_len] at hi
  by_cases h : 2 * i + 1 < r.length
  · rw [up_two r i h]; exact hn _ _
  · rw [up_one r i (by omega)]; exact hr _ (List.getElem_mem _)
/-- The rows of a tree, from a row on. -/
def rowsFrom (r : List Str8) : List (List Str8) := if h : r.length ≤ 1 then [r] else r :: rowsFrom (up r)
termination_by r.length
decreasing_by rw [up_len]; omega
theorem rowsFrom_one {r : List Str8} (h : r.length ≤ 1) : rowsFrom r = [r] := by rw [rowsFrom, dif_pos h]
theorem rowsFrom_more {r : List Str8} (h : ¬ r.length ≤ 1) : rowsFrom r = r :: rowsFrom (up r) := by rw [rowsFrom, dif_neg h]
def treeOf (l : List Leaf) : List (List Str8) := if l = [] then [] else rowsFrom (l.map leafD)
theorem treeOf_nil : treeOf [] = [] := rfl
theorem treeOf_some {l : List Leaf} (h : l ≠ []) : treeOf l = rowsFrom (l.map leafD) := by rw [treeOf, if_neg h]
def rootOf (l : List Leaf) : Str8 := if l = [] then [48, 48, 48, 48, 48, 48, 48, 48, 48, 48, 48, 48, 48, 48, 48, 48] else ((treeOf l).getLastD []).headD []
theorem rowsFrom_ne (r : List Str8) : rowsFrom r ≠ [] := by rw [rowsFrom]; split <;> simp
theorem rowsFrom_ind (P : List Str8 → Prop) (h1 : ∀ r, r.length ≤ 1 → P r) (h2 : ∀ r, ¬ r.length ≤ 1 → P (up r) → P r) (r : List Str8) : P r := by
  by_cases h : r.length ≤ 1
  · exact h1 r h
  · exact h2 r h (rowsFrom_ind P h1 h2 (up r))
termination_by r.length
decreasing_by rw [up_len]; omega
theorem rowsFrom_len : ∀ r : List Str8, r ≠ [] → (rowsFrom r).length ≤ r.length := by
  refine rowsFrom_ind _ (fun r h h0 => ?_) (fun r h ih h0 => ?_)
  · rw [rowsFrom_one h]; cases r; exact absurd rfl h0; simp
  · have := ih (by intro e; have := up_len r; rw [e] at this; simp at this; omega)
    rw [up_len] at this
    rw [rowsFrom_more h, List.length_cons]; omega
theorem rowsFrom_all (P : Str8 → Prop) (hn : ∀ a b, P (nodeD a b)) : ∀ r : List Str8, (∀ x ∈ r, P x) → ∀ y ∈ rowsFrom r, ∀ x ∈ y, P x := by
  refine rowsFrom_ind _ (fun r h h0 => ?_) (fun r h ih h0 => ?_)
  · rw [rowsFrom_one h]; intro y hy; simp at hy; rw [hy]; exact h0
  · rw [rowsFrom_more h]
    intro y hy
    rcases List.mem_cons.1 hy with rfl | hy
    · exact h0
    · exact ih (up_all r P h0 hn) y hy
/-- Each row is the row above the one before; the last one has one digest. -/
theorem rowsFrom_last : ∀ r : List Str8, r ≠ [] → ∃ d, (rowsFrom r).getLastD [] = [d] := by
  refine rowsFrom_ind _ (fun r h h0 => ?_) (fun r h ih h0 => ?_)
  · rw [rowsFrom_one h]
    match r, h, h0 with
    | [d], _, _ => exact ⟨d, rfl⟩
  · obtain ⟨d, hd⟩ := ih (by intro e; have := up_len r; rw [e] at this; simp at this; omega)
    refine ⟨d, ?_⟩
    rw [rowsFrom_more h, List.getLastD_cons]
    have := rowsFrom_ne (up r)
    cases hq : rowsFrom (up r) with
    | nil => exact absurd hq this
    | cons a t => rw [hq] at hd; rw [← hd]; exact lastD_cons _ _ _ _
theorem rowsFrom_pow : ∀ r : List Str8, ∀ k, r.length ≤ 2 ^ k → (rowsFrom r).length ≤ k + 1 := by
  refine rowsFrom_ind _ (fun r h k h0 => ?_) (fun r h ih k h0 => ?_)
  · rw [rowsFrom_one h]; simp
  · match k, h0 with
    | 0, h0 => exact absurd h0 h
    | k + 1, h0 =>
      have := ih k (by rw [up_len]; rw [Nat.pow_succ] at h0; omega)
      rw [rowsFrom_more h, List.length_cons]; omega

/-- A partner on the way to the root. -/
structure Side where
  digest : Str8
  left : Bool
deriving Inhabited
def sideAt (row : List Str8) (n : Nat) : List Side :=
  if n % 2 = 1 then [⟨row.getD (n - 1) [], true⟩] else if n + 1 < row.length then [⟨row.getD (n + 1) [], false⟩] else []
def proofOf : List (List Str8) → Nat → List Side
  | [], _ => []
  | r :: t, n => sideAt r n ++ proofOf t (n / 2)
def climbS (d : Str8) (s : Side) : Str8 := if s.left then nodeD s.digest d else nodeD d s.digest
def climbOf (d : Str8) (l : List Side) : Str8 := l.foldl climbS d
theorem climb_side (r : List Str8) (n : Nat) (h : n < r.length) : climbOf r[n] (sideAt r n) = (up r)[n / 2]'(by rw [up_len]; omega) := by
  unfold sideAt
  by_cases h1 : n % 2 = 1
  · have h2 : 2 * (n / 2) + 1 < r.length := by omega
    rw [if_pos h1, up_two r (n / 2) h2]
    have e1 : 2 * (n / 2) = n - 1 := by omega
    have e2 : 2 * (n / 2) + 1 = n := by omega
    rw [getD_lt _ _ _ (by omega : n - 1 < r.length)]
    simp only [climbOf, climbS, List.foldl, if_true, e1, e2]
    congr 1
    congr 1
    omega
  · rw [if_neg h1]
    by_cases h2 : n + 1 < r.length
    · have e1 : 2 * (n / 2) = n := by omega
      rw [if_pos h2, up_two r (n / 2) (by omega)]
      rw [getD_lt _ _ _ h2]
      simp only [climbOf, climbS, List.foldl, e1]
      rfl
    · have e1 : 2 * (n / 2) = n := by omega
      rw [if_neg h2, up_one r (n / 2) (by omega)]
      simp only [climbOf, List.foldl, e1]
/-- From each place of a row its proof leads to the root. -/
theorem climb_proof : ∀ (r : List Str8) (n : Nat) (h : n < r.length), [climbOf r[n] (proofOf (rowsFrom r) n)] = (rowsFrom r).getLastD [] := by
  refine rowsFrom_ind _ (fun r h n hn => ?_) (fun r h ih n hn => ?_)
  · rw [rowsFrom_one h]
    match r, h, n, hn with
    | [d], _, 0, _ => rfl
  · have hl := up_len r
    have := ih (n / 2) (by omega)
    rw [rowsFrom_more h, proofOf, climbOf, List.foldl_append]
    have hc := climb_side r n hn
    rw [climbOf] at hc
    rw [hc]
    rw [climbOf] at this
    rw [this, List.getLastD_cons]
    have := rowsFrom_ne (up r)
    cases hq : rowsFrom (up r) with
    | nil => exact absurd hq this
    | cons a t => exact lastD_cons _ _ _ _
theorem up_set (r : List Str8) (n : Nat) (d : Str8) (h : n < r.length) : ∃ e, up (r.set n d) = (up r).set (n / 2) e := by
  refine ⟨(up (r.set n d)).getD (n / 2) [], ?_⟩
  refine List.ext_getElem (by simp [up_len]) fun i h1 h2 => ?_
  rw [up_len, List.length_set] at h1
  rw [List.getElem_set]
  by_cases hi : n / 2 = i
  · subst hi
    rw [if_pos rfl, getD_lt]
  · rw [if_neg hi]
    by_cases h3 : 2 * i + 1 < r.length
    · rw [up_two (r.set n d) i (by simpa using h3), up_two r i h3, List.getElem_set_ne (by omega), List.getElem_set_ne (by omega)]
    · rw [up_one (r.set n d) i (by simp; omega), up_one r i (by omega), List.getElem_set_ne (by omega)]
/-- The proof of a place does not hang on what stands there. -/
theorem proof_set : ∀ (r : List Str8) (n : Nat) (d : Str8) (h : n < r.length), proofOf (rowsFrom (r.set n d)) n = proofOf (rowsFrom r) n := by
  refine rowsFrom_ind _ (fun r h n d hn => ?_) (fun r h ih n d hn => ?_)
  · rw [rowsFrom_one h, rowsFrom_one (by simpa using h)]
    match r, h, n, hn with
    | [e], _, 0, _ => rfl
  · rw [rowsFrom_more h, rowsFrom_more (by simpa using h), proofOf, proofOf]
    obtain ⟨e, he⟩ := up_set r n d hn
    have hl := up_len r
    rw [he, ih (n / 2) e (by omega)]
    congr 1
    unfold sideAt
    simp only [List.length_set]
    by_cases h1 : n % 2 = 1
    · rw [if_pos h1, if_pos h1, getD_lt _ _ _ (by simp; omega), getD_lt _ _ _ (by omega), List.getElem_set_ne (by omega)]
    · rw [if_neg h1, if_neg h1]
      by_cases h2 : n + 1 < r.length
      · rw [if_pos h2, if_pos h2, getD_lt _ _ _ (by simpa using h2), getD_lt _ _ _ h2, List.getElem_set_ne (by omega)]
      · rw [if_neg h2, if_neg h2]
theorem side_len (r : List Str8) (n : Nat) : (sideAt r n).length ≤ 1 := by unfold sideAt; split; simp; split <;> simp
theorem proof_len : ∀ (t : List (List Str8)) (n : Nat), (proofOf t n).length ≤ t.length
  | [], _ => by simp [proofOf]
  | r :: t, n => by rw [proofOf, List.length_append, List.length_cons]; have := side_len r n; have := proof_len t (n / 2); omega
end Go.Proofs.YtnnoolemmnailaaDoor
