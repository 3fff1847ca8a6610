/-
  Each text is in just one group, and texts that are alike are in one: plainly. No condition.
-/
import Derived.Test.YtllbklnljmgppaaClusA
namespace Go.Proofs.Ytllbklnljmgppaa
open Go.RowKit
set_option linter.unusedVariables false

theorem mgR_keep {al : Nat → Nat → Bool} {i k : Nat} {g : List Nat} {p q : Nat} (hp : p < g.length) (hq : q < g.length) (h : g.getD p 0 = g.getD q 0) : (mgR al i k g).getD p 0 = (mgR al i k g).getD q 0 := by
  unfold mgR
  split
  · rw [rel1_at, rel1_at, if_pos hp, if_pos hq, h]
  · exact h
theorem mgR_join {al : Nat → Nat → Bool} {i k : Nat} {g : List Nat} (hi : i < g.length) (hk : k < g.length) (h : al i k = true) : (mgR al i k g).getD i 0 = (mgR al i k g).getD k 0 := by
  unfold mgR
  rw [if_pos h, rel1_at, rel1_at, if_pos hi, if_pos hk, if_pos rfl, ite_self]
theorem inR_keep {al : Nat → Nat → Bool} {i : Nat} {p q : Nat} : ∀ (m : Nat) (g : List Nat), p < g.length → q < g.length → g.getD p 0 = g.getD q 0 → (inR al i m g).getD p 0 = (inR al i m g).getD q 0
  | 0, g, _, _, h => h
  | m + 1, g, hp, hq, h => mgR_keep (by rw [inR_len]; exact hp) (by rw [inR_len]; exact hq) (inR_keep m g hp hq h)
theorem inR_join {al : Nat → Nat → Bool} {i k : Nat} (h : al i k = true) : ∀ (m : Nat) (g : List Nat), i < g.length → k < g.length → k < m → (inR al i m g).getD i 0 = (inR al i m g).getD k 0
  | 0, g, _, _, hm => by omega
  | m + 1, g, hi, hk, hm => by
    by_cases e : k = m
    · subst e
      exact mgR_join (by rw [inR_len]; exact hi) (by rw [inR_len]; exact hk) h
    · exact mgR_keep (by rw [inR_len]; exact hi) (by rw [inR_len]; exact hk) (inR_join h m g hi hk (by omega))
theorem gR_join {al : Nat → Nat → Bool} {L i k : Nat} (h : al i k = true) (hk : k < i) (hi : i < L) : ∀ j, i < j → j ≤ L → (gR al L j).getD i 0 = (gR al L j).getD k 0
  | 0, hj, _ => by omega
  | j + 1, hj, hL => by
    by_cases e : i = j
    · subst e
      exact inR_join h _ _ (by rw [gR_len]; omega) (by rw [gR_len]; omega) hk
    · exact inR_keep _ _ (by rw [gR_len]; omega) (by rw [gR_len]; omega) (gR_join h hk hi j (by omega) (by omega))
/-! ### Texts' groups -/
def setAll (C : List Nat) (p : Nat) (row : List Nat) : List Nat := row.foldl (fun C k => C.set k p) C
theorem setAll_len (p : Nat) : ∀ (row C : List Nat), (setAll C p row).length = C.length
  | [], C => rfl
  | k :: row, C => by
    show (setAll (C.set k p) p row).length = _
    rw [setAll_len p row, List.length_set]
theorem setAll_snoc (C : List Nat) (p : Nat) (row : List Nat) (k : Nat) : setAll C p (row ++ [k]) = (setAll C p row).set k p := by
  unfold setAll; rw [List.foldl_append]; rfl
theorem setAll_at (p : Nat) {k : Nat} : ∀ (row C : List Nat), k < C.length → (setAll C p row).getD k 0 = if k ∈ row then p else C.getD k 0
  | [], C, _ => by simp [setAll]
  | j :: row, C, hk => by
    show (setAll (C.set j p) p row).getD k 0 = _
    rw [setAll_at p row _ (by rw [List.length_set]; exact hk)]
    by_cases h1 : k ∈ row
    · rw [if_pos h1, if_pos (List.mem_cons_of_mem _ h1)]
    · rw [if_neg h1]
      by_cases h2 : k = j
      · subst h2
        rw [set_getD _ _ _ _ hk, if_pos rfl, if_pos (List.mem_cons_self ..)]
      · rw [if_neg (fun h => by rcases List.mem_cons.1 h with h | h; exact h2 h; exact h1 h)]
        by_cases hj : j < C.length
        · rw [set_getD _ _ _ _ hj, if_neg h2]
        · rw [List.set_eq_of_length_le (by omega)]
def asg (P : List (List Nat)) (L : Nat) : Nat → List Nat
  | 0 => List.replicate L 0
  | p + 1 => setAll (asg P L p) p (P.getD p [])
theorem asg_len (P : List (List Nat)) (L : Nat) : ∀ p, (asg P L p).length = L
  | 0 => by simp [asg]
  | p + 1 => by rw [asg, setAll_len, asg_len P L p]
theorem asg_at {P : List (List Nat)} {L k p : Nat} (hu : ∀ q, k ∈ P.getD q [] → q = p) (hk : k ∈ P.getD p []) (hkl : k < L) : ∀ q, p < q → (asg P L q).getD k 0 = p
  | 0, h => by omega
  | q + 1, h => by
    rw [asg, setAll_at _ _ _ (by rw [asg_len]; exact hkl)]
    by_cases e : k ∈ P.getD q []
    · rw [if_pos e, hu q e]
    · rw [if_neg e]
      have hne : q ≠ p := fun h => e (by rw [h]; exact hk)
      exact asg_at hu hk hkl q (by omega)
def cntTo (P : List (List Nat)) (p : Nat) : Nat := (P.take p).flatten.length
theorem cntTo_succ {P : List (List Nat)} {p : Nat} (h : p < P.length) : cntTo P (p + 1) = cntTo P p + (P.getD p []).length := by
  unfold cntTo
  rw [List.take_succ_eq_append_getElem h, List.flatten_append, List.length_append]
  simp [List.getD_eq_getElem?_getD, h]
theorem cntTo_le {P : List (List Nat)} {p : Nat} (h : p < P.length) : cntTo P p + (P.getD p []).length ≤ P.flatten.length := by
  rw [← cntTo_succ h]
  unfold cntTo
  conv => rhs; rw [← List.take_append_drop (p + 1) P, List.flatten_append, List.length_append]
  omega
section
variable {L : Nat} {a r : List Nat}
theorem grp_mem (T : Two L L a r) {p k : Nat} (h : k ∈ (outsA a L).getD p []) : k < L ∧ (reps a L)[p]? = some (a.getD k 0) := by
  unfold outsA at h
  rw [List.getD_eq_getElem?_getD, List.getElem?_map] at h
  cases hp : (reps a L)[p]? with
  | none => rw [hp] at h; cases h
  | some q =>
    rw [hp] at h
    have h : k ∈ memL a L q := h
    unfold memL at h
    obtain ⟨h1, h2⟩ := List.mem_filter.1 h
    exact ⟨List.mem_range.1 h1, by rw [beq_iff_eq.1 h2]⟩
theorem grp_uniq (T : Two L L a r) {p q k : Nat} (h : k ∈ (outsA a L).getD p []) (h2 : k ∈ (outsA a L).getD q []) : q = p := reps_inj (grp_mem T h2).2 (grp_mem T h).2
theorem grp_in (T : Two L L a r) {k : Nat} (hk : k < L) : k ∈ (outsA a L).getD (pos a (a.getD k 0)) [] ∧ pos a (a.getD k 0) < (outsA a L).length := by
  obtain ⟨h1, h2⟩ := lab_first T hk
  have hp := pos_at h1 (n := L) (by omega)
  have hlt := (List.getElem?_eq_some_iff.1 hp).1
  refine ⟨?_, by rw [outsA_len]; exact hlt⟩
  unfold outsA
  rw [List.getD_eq_getElem?_getD, List.getElem?_map, hp]
  show k ∈ memL a L (a.getD k 0)
  unfold memL
  exact List.mem_filter.2 ⟨List.mem_range.2 hk, beq_self_eq_true _⟩
theorem flat_len_all (T : Two L L a r) : (outsA a L).flatten.length = L := by
  have hnd : (outsA a L).flatten.Pairwise (· ≠ ·) := by
    rw [List.pairwise_flatten]
    refine ⟨fun l hl => ?_, ?_⟩
    · unfold outsA at hl
      obtain ⟨q, _, rfl⟩ := List.mem_map.1 hl
      exact List.Nodup.sublist List.filter_sublist List.nodup_range
    · unfold outsA
      rw [List.pairwise_map]
      have hn : (reps a L).Nodup := List.Nodup.sublist List.filter_sublist List.nodup_range
      refine List.Pairwise.imp (fun {x y} hxy u hu v hv e => ?_) hn
      subst e
      unfold memL at hu hv
      exact hxy ((beq_iff_eq.1 (List.mem_filter.1 hu).2).symm.trans (beq_iff_eq.1 (List.mem_filter.1 hv).2))
  have hperm : (outsA a L).flatten.Perm (List.range L) := by
    rw [List.perm_ext_iff_of_nodup hnd List.nodup_range]
    intro k
    rw [List.mem_flatten, List.mem_range]
    constructor
    · rintro ⟨l, hl, hk⟩
      obtain ⟨p, hp, rfl⟩ := List.getElem_of_mem hl
      exact (grp_mem T (p := p) (by simpa [List.getD_eq_getElem?_getD, hp] using hk)).1
    · intro hk
      obtain ⟨h1, h2⟩ := grp_in T hk
      refine ⟨_, List.getElem_mem h2, ?_⟩
      have e : (outsA a L).getD (pos a (a.getD k 0)) [] = (outsA a L)[pos a (a.getD k 0)] := by rw [List.getD_eq_getElem?_getD, List.getElem?_eq_getElem h2]; rfl
      rw [← e]; exact h1
  rw [hperm.length_eq, List.length_range]
/-- A text's group, when all groups have been gone through. -/
theorem asg_end (T : Two L L a r) {k : Nat} (hk : k < L) : (asg (outsA a L) L (outsA a L).length).getD k 0 = pos a (a.getD k 0) :=
  asg_at (fun q hq => grp_uniq T (grp_in T hk).1 hq) (grp_in T hk).1 hk _ (grp_in T hk).2
end
/-- Texts that are alike are in one group. -/
theorem like_one {al : Nat → Nat → Bool} {L i k : Nat} (h : al i k = true) (hk : k < i) (hi : i < L) : (gA al L L).getD i 0 = (gA al L L).getD k 0 :=
  ((two_all al L L (Nat.le_refl _)).same i k hi (by omega)).2 (gR_join h hk hi L hi (Nat.le_refl _))
theorem clO_outs {ls : List (List UInt8)} {n num den : Int} (h : clF ls n num den = 0) : clO ls n num den = outsA (gA (alS num.toNat den.toNat (shs ls n)) ls.length ls.length) ls.length := by
  have T := two_all (alS num.toNat den.toNat (shs ls n)) ls.length ls.length (Nat.le_refl _)
  unfold clO clG
  rw [if_pos h, outsA_grps T, grps_same T]
theorem clO_none {ls : List (List UInt8)} {n num den : Int} (h : clF ls n num den ≠ 0) : clO ls n num den = [] := if_neg h
end Go.Proofs.Ytllbklnljmgppaa
