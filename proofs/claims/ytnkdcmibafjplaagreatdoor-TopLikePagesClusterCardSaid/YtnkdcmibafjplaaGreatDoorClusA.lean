/-
  What alike's Clusters keeps while it writes its groups, plainly; a map's block is no row.
-/
import Derived.Test.YtnkdcmibafjplaaGreatDoorClusF
import Derived.Test.YtnkdcmibafjplaaGreatDoorMaps
namespace Go.Proofs.YtnkdcmibafjplaaGreatDoor
open Go.RowKit
set_option linter.unusedVariables false
set_option linter.unusedSimpArgs false

section
variable {P : Program} {K E : TypeId} {q : IntKind} {w w' : World} {b n : Nat} {f : Lit → Option Int}
theorem IMap.notRowC (h : IMap P K E q w b n f) {B : Nat} {e : TypeId} {size k : Nat} {v : Value} {xs : List Value} (hr : w.ownsRow B e size v k xs) : some b ≠ v.ownBlock := by
  obtain ⟨D, ⟨es, clock, h1, h2⟩, h3⟩ := h
  rcases hr.2 with ⟨rfl, _⟩ | ⟨g', cap, cur, rfl, _, hgb, _⟩
  · simp [Value.ownBlock]
  · intro e'
    obtain rfl : b = g' := by simpa [Value.ownBlock] using e'
    have := h1.symm.trans hgb
    simp at this
end
section
variable {α : Type} {inn : α → List Value} {E E2 : TypeId} {B : Nat} {w w' : World} {v : Value} {l : List α}
theorem Nest1.notIn {r : Option Nat} (h : Nest1 inn E E2 B w v l) (hg : w.grownBy w' r) (hne : ∀ {e : TypeId} {u : Value} {n : Nat} {xs : List Value}, w.ownsRow B e 1 u n xs → r ≠ u.ownBlock) : Nest1 inn E E2 B w' v l := by
  obtain ⟨vs, h1, h2, h3, h4⟩ := h.open1
  exact Nest1.mk1 h1 (h2.kept hg (.inr (hne h2).symm)) (fun i a b => (h3 i a b).kept hg (.inr (hne (h3 i a b)).symm)) h4
theorem own_baseN {w : World} {B B' : Nat} {e : TypeId} {size n : Nat} {v : Value} {xs : List Value} (h : w.ownsRow B e size v n xs) (hB : B' ≤ B) : w.ownsRow B' e size v n xs := by
  refine ⟨h.1, ?_⟩
  rcases h.2 with hn | ⟨g, cap, cur, e1, hb, rest⟩
  · exact .inl hn
  · exact .inr ⟨g, cap, cur, e1, Nat.le_trans hB hb, rest⟩
theorem Nest1.base {B' : Nat} (h : Nest1 inn E E2 B w v l) (hB : B' ≤ B) : Nest1 inn E E2 B' w v l := by
  obtain ⟨vs, h1, h2, h3, h4⟩ := h.open1
  exact Nest1.mk1 h1 (own_baseN h2 hB) (fun i a b => own_baseN (h3 i a b) hB) h4
end
/-! ### The groups as alike writes them -/
def reps (G : List Nat) (i : Nat) : List Nat := (List.range i).filter (firstB G)
def pos (G : List Nat) (r : Nat) : Nat := (reps G r).length
def outsA (G : List Nat) (i : Nat) : List (List Nat) := (reps G i).map fun r => memL G i r
theorem reps_succ (G : List Nat) (i : Nat) : reps G (i + 1) = reps G i ++ if firstB G i = true then [i] else [] := by
  unfold reps
  rw [List.range_succ, List.filter_append, List.filter_cons, List.filter_nil]
theorem reps_lt {G : List Nat} {i r : Nat} (h : r ∈ reps G i) : r < i := by
  unfold reps at h
  exact List.mem_range.1 (List.mem_filter.1 h).1
theorem pos_at {G : List Nat} {r : Nat} (hr : firstB G r = true) : ∀ {n : Nat}, r < n → (reps G n)[pos G r]? = some r
  | 0, h => by omega
  | n + 1, h => by
    rw [reps_succ]
    by_cases e : r = n
    · subst e
      unfold pos
      rw [if_pos hr, List.getElem?_append_right (Nat.le_refl _)]; simp
    · have ih := pos_at hr (n := n) (by omega)
      rw [List.getElem?_append_left (by
        by_cases hl : pos G r < (reps G n).length
        · exact hl
        · rw [List.getElem?_eq_none (by omega)] at ih; cases ih)]
      exact ih
theorem reps_inj {G : List Nat} {n j k r : Nat} (h1 : (reps G n)[j]? = some r) (h2 : (reps G n)[k]? = some r) : j = k := by
  have hn : (reps G n).Nodup := List.Nodup.sublist List.filter_sublist List.nodup_range
  obtain ⟨a, ha⟩ := List.getElem?_eq_some_iff.1 h1
  obtain ⟨b, hb⟩ := List.getElem?_eq_some_iff.1 h2
  exact (List.getElem_inj hn).1 (ha.trans hb.symm)
theorem outsA_len (G : List Nat) (i : Nat) : (outsA G i).length = (reps G i).length := by unfold outsA; rw [List.length_map]
theorem reps_len (G : List Nat) (i : Nat) : (reps G i).length ≤ i := by
  unfold reps; exact Nat.le_trans (List.length_filter_le _ _) (by simp)
/-- The groups with the new text's group opened, if it is the first of it. -/
def outsM (G : List Nat) (i : Nat) : List (List Nat) := (reps G (i + 1)).map fun r => memL G i r
theorem memL_none {G : List Nat} {i : Nat} (h : firstB G i = true) (hg : G.getD i 0 = i) : memL G i i = [] := by
  unfold memL
  rw [List.filter_eq_nil_iff]
  intro k hk
  have h1 := firstB_iff.1 h k (List.mem_range.1 hk)
  rw [hg] at h1
  simpa using h1
theorem outsM_first {G : List Nat} {i : Nat} (h : firstB G i = true) (hg : G.getD i 0 = i) : outsM G i = outsA G i ++ [[]] := by
  unfold outsM outsA
  rw [reps_succ, if_pos h, List.map_append, List.map_cons, List.map_nil, memL_none h hg]
theorem outsM_old {G : List Nat} {i : Nat} (h : firstB G i = false) : outsM G i = outsA G i := by
  unfold outsM outsA
  rw [reps_succ, if_neg (by rw [h]; decide), List.append_nil]
theorem outsM_at {G : List Nat} {i r : Nat} (hr : firstB G r = true) (hri : r ≤ i) : (outsM G i)[pos G r]? = some (memL G i r) := by
  unfold outsM
  rw [List.getElem?_map, pos_at hr (by omega)]; rfl
theorem outsM_put {G : List Nat} {i r : Nat} (hr : firstB G r = true) (hri : r ≤ i) (hg : G.getD i 0 = r) : (outsM G i).set (pos G r) (memL G i r ++ [i]) = outsA G (i + 1) := by
  apply List.ext_getElem?
  intro j
  rw [List.getElem?_set]
  have hp := pos_at hr (n := i + 1) (by omega)
  have hlt : pos G r < (reps G (i + 1)).length := (List.getElem?_eq_some_iff.1 hp).1
  have hA : (outsA G (i + 1))[j]? = ((reps G (i + 1))[j]?).map fun r => memL G (i + 1) r := by unfold outsA; rw [List.getElem?_map]
  have hM : (outsM G i)[j]? = ((reps G (i + 1))[j]?).map fun r => memL G i r := by unfold outsM; rw [List.getElem?_map]
  have hMl : (outsM G i).length = (reps G (i + 1)).length := by unfold outsM; rw [List.length_map]
  by_cases e : pos G r = j
  · subst e
    rw [if_pos rfl, if_pos (by rw [hMl]; exact hlt), hA, hp, Option.map_some, memL_succ, if_pos hg]
  · rw [if_neg e, hA, hM]
    cases hj : (reps G (i + 1))[j]? with
    | none => rfl
    | some r' =>
      have hne : ¬ G.getD i 0 = r' := fun h => e (by rw [hg] at h; subst h; exact reps_inj hp hj)
      rw [Option.map_some, Option.map_some, memL_succ, if_neg hne, List.append_nil]
theorem outsA_grps {L : Nat} {a r : List Nat} (T : Two L L a r) : outsA a L = grps a := by
  unfold outsA grps reps
  rw [T.la]
  refine List.map_congr_left fun i hi => ?_
  have hi := List.mem_filter.1 hi
  rw [(first_self T (List.mem_range.1 hi.1)).1 hi.2]
/-- The label of a text is the first one of its group. -/
theorem lab_first {L : Nat} {a r : List Nat} (T : Two L L a r) {i : Nat} (hi : i < L) : firstB a (a.getD i 0) = true ∧ a.getD i 0 ≤ i := by
  have h1 := T.low i hi
  exact ⟨(first_self T (by omega)).2 (T.rep i hi), h1⟩
theorem relP_tail {f t : Nat} {g : List Nat} {n : Nat} (hz : ∀ p, n ≤ p → g.getD p 0 = 0) (hf : 0 < f) : relP f t g n = rel1 f t g := by
  unfold relP rel1
  conv => rhs; rw [← List.take_append_drop n g, List.map_append]
  congr 1
  conv => lhs; rw [← List.map_id (g.drop n)]
  refine List.map_congr_left fun x hx => ?_
  obtain ⟨j, hj, rfl⟩ := List.getElem_of_mem hx
  rw [List.length_drop] at hj
  have := hz (n + j) (by omega)
  rw [List.getD_eq_getElem?_getD, List.getElem?_eq_getElem (by omega)] at this
  rw [List.getElem_drop]
  have e : g[n + j] = 0 := this
  rw [e, if_neg (by omega)]; rfl
theorem take_getD (S : List (List Int)) (n k : Nat) : (S.take n).getD k [] = if k < n then S.getD k [] else [] := by
  rw [List.getD_eq_getElem?_getD, List.getElem?_take, List.getD_eq_getElem?_getD]
  split <;> rfl
/-- What alike's map of labels holds ahead of text i. -/
def MapAt (G : List Nat) (i : Nat) (f : Lit → Option Int) : Prop := ∀ r, r < i → firstB G r = true → f (.int .i64 (r : Nat)) = some ((pos G r : Nat) : Int)
theorem MapAt.first {G : List Nat} {i : Nat} {f : Lit → Option Int} (h : MapAt G i f) : MapAt G (i + 1) (fun x => if x.sameKey (.int .i64 (i : Nat)) then some ((pos G i : Nat) : Int) else f x) := by
  intro r hr h1
  by_cases e : r = i
  · subst e
    show (if _ then _ else _) = _
    rw [if_pos (WideAt.sameKey_self (show WideAt.IsKeyLit (.int .i64 (r : Nat)) from trivial))]
  · show (if _ then _ else _) = _
    rw [if_neg (by rw [Maps.sameKey_ne (fun e2 => e (by injection e2 with _ e3; omega))]; simp)]
    exact h r (by omega) h1
theorem MapAt.old {G : List Nat} {i : Nat} {f : Lit → Option Int} (h : MapAt G i f) (hn : firstB G i = false) : MapAt G (i + 1) f := by
  intro r hr h1
  by_cases e : r = i
  · subst e; rw [hn] at h1; cases h1
  · exact h r (by omega) h1
end Go.Proofs.YtnkdcmibafjplaaGreatDoor
