/-
  From each leaf its proof leads to the root: plain facts.
-/
import Derived.Test.YtnnoolemmnailaaDoorClimb
namespace Go.Proofs.YtnnoolemmnailaaDoor
open Go.RowKit
set_option linter.unusedVariables false
set_option linter.unusedSimpArgs false

theorem hexB_mem (m : Int) : hexSet.contains (hexB m) = true := by
  have h : (m % 16).toNat < 16 := by omega
  unfold hexB hexSet
  revert h
  generalize (m % 16).toNat = k
  intro h
  have : ∀ k < 16, ([48, 49, 50, 51, 52, 53, 54, 55, 56, 57, 97, 98, 99, 100, 101, 102] : List UInt8).contains (([48, 49, 50, 51, 52, 53, 54, 55, 56, 57, 97, 98, 99, 100, 101, 102] : List UInt8).getD k 0) = true := by decide
  exact this k h
theorem side_dig (row : List Str8) (n : Nat) (hr : ∀ x ∈ row, isDig x = true) (hn : n < row.length) : ∀ s ∈ sideAt row n, isDig s.digest = true := by
  intro s hs
  unfold sideAt at hs
  split at hs
  · simp only [List.mem_singleton] at hs
    rw [hs]
    show isDig (row.getD (n - 1) []) = true
    rw [getD_lt _ _ _ (by omega)]
    exact hr _ (List.getElem_mem _)
  · split at hs
    · rename_i h
      simp only [List.mem_singleton] at hs
      rw [hs]
      show isDig (row.getD (n + 1) []) = true
      rw [getD_lt _ _ _ h]
      exact hr _ (List.getElem_mem _)
    · simp at hs
theorem proof_dig : ∀ (r : List Str8), (∀ a b, isDig (nodeD a b) = true) → (∀ x ∈ r, isDig x = true) → ∀ n, n < r.length → ∀ s ∈ proofOf (rowsFrom r) n, isDig s.digest = true := by
  intro r hn
  refine rowsFrom_ind (fun r => (∀ x ∈ r, isDig x = true) → ∀ n, n < r.length → ∀ s ∈ proofOf (rowsFrom r) n, isDig s.digest = true) (fun r h hr n hn' s hs => ?_) (fun r h ih hr n hn' s hs => ?_) r
  · rw [rowsFrom_one h, proofOf, proofOf, List.append_nil] at hs
    exact side_dig r n hr hn' s hs
  · rw [rowsFrom_more h, proofOf] at hs
    rcases List.mem_append.1 hs with hs | hs
    · exact side_dig r n hr hn' s hs
    · exact ih (up_all r _ hr hn) (n / 2) (by rw [up_len]; omega) s hs
theorem root_eq {l : List Leaf} (h : l ≠ []) {d : Str8} (hd : (rowsFrom (l.map leafD)).getLastD [] = [d]) : rootOf l = d := by
  rw [rootOf, if_neg h, treeOf_some h, hd]; rfl
theorem climb_root {l : List Leaf} {m : Nat} (hm : m < l.length) : climbOf (leafD l[m]) (proofOf (treeOf l) m) = rootOf l := by
  have h : l ≠ [] := by intro e; subst e; simp at hm
  have := climb_proof (l.map leafD) m (by simpa using hm)
  rw [List.getElem_map] at this
  rw [root_eq h this.symm, treeOf_some h]
theorem climb_fault {l : List Leaf} (hl : l.length ≤ 1000) {m : Nat} (hm : m < l.length) (hdig : ∀ t, isDig (digL t) = true) {y : Leaf} : climbFault y (proofOf (treeOf l) m) = leafF y := by
  have h : l ≠ [] := by intro e; subst e; simp at hm
  have hlen : (proofOf (treeOf l) m).length ≤ 11 := by
    refine Nat.le_trans (proof_len _ _) ?_
    rw [treeOf_some h]
    exact rowsFrom_pow _ 10 (by rw [List.length_map]; omega)
  unfold climbFault
  split
  · rfl
  · rename_i h0
    have h0 : leafF y = 0 := by simpa using h0
    rw [if_neg (by omega), if_pos, h0]
    intro s hs
    rw [treeOf_some h] at hs
    exact proof_dig _ (fun a b => hdig _) (fun x hx => by obtain ⟨z, _, rfl⟩ := List.mem_map.1 hx; exact hdig _) m (by simpa using hm) s hs
theorem map_set {l : List Leaf} {m : Nat} {y : Leaf} : (l.set m y).map leafD = (l.map leafD).set m (leafD y) := by rw [List.map_set]
theorem proof_changed {l : List Leaf} {m : Nat} (hm : m < l.length) (y : Leaf) : proofOf (treeOf (l.set m y)) m = proofOf (treeOf l) m := by
  have h : l ≠ [] := by intro e; subst e; simp at hm
  rw [treeOf_some h, treeOf_some (by simpa using h), map_set, proof_set _ _ _ (by simpa using hm)]
theorem climb_changed {l : List Leaf} {m : Nat} (hm : m < l.length) (y : Leaf) : climbOf (leafD y) (proofOf (treeOf l) m) = rootOf (l.set m y) := by
  have := climb_root (l := l.set m y) (m := m) (by simpa using hm)
  rw [List.getElem_set_self, proof_changed hm] at this
  exact this
theorem lvF_key {l : List Leaf} (hf : leavesFault l = 0) {i : Nat} (hi : i < l.length) (h0 : 0 < i) : sle l[i].key (l[i - 1]'(by omega)).key = false := by
  have h1 := (leaves_ok hf).2 l[i] (List.getElem_mem _)
  have h3 : ¬ 1000 < l.length := by have := (leaves_ok hf).1; omega
  have h2 : lvF l i = 0 := by
    rw [leavesFault, if_neg h3] at hf
    exact firstF_all hf i hi
  cases hs : sle l[i].key (l[i - 1]'(by omega)).key with
  | false => rfl
  | true => rw [lvF_2 hi h1 h0 hs] at h2; exact absurd h2 (by decide)
theorem changed_ok {l : List Leaf} (hf : leavesFault l = 0) {m : Nat} (hm : m < l.length) {y : Leaf} (hk : y.key = l[m].key) (hy : leafF y = 0) : leavesFault (l.set m y) = 0 := by
  refine leavesFault_ok (by have := (leaves_ok hf).1; rw [List.length_set]; omega) (fun j hj => ?_)
  have hj' : j < l.length := by simpa using hj
  have key : ∀ i (hi : i < l.length), ((l.set m y)[i]'(by simpa using hi)).key = l[i].key := by
    intro i hi
    rw [List.getElem_set]
    split
    · rename_i e; subst e; exact hk
    · rfl
  refine lvF_3 hj ?_ ?_
  · rw [List.getElem_set]
    split
    · exact hy
    · exact (leaves_ok hf).2 _ (List.getElem_mem _)
  · rintro ⟨h0, hs⟩
    rw [key j hj', key (j - 1) (by omega), lvF_key hf hj' h0] at hs
    exact absurd hs (by decide)
theorem changed_bad {l : List Leaf} {m : Nat} (hm : m < l.length) {y : Leaf} (hy : leafF y ≠ 0) : leavesFault (l.set m y) ≠ 0 := fun h => by
  have := (leaves_ok h).2 _ (List.getElem_mem (l := l.set m y) (n := m) (by simpa using hm))
  rw [List.getElem_set_self] at this
  exact hy this
end Go.Proofs.YtnnoolemmnailaaDoor
