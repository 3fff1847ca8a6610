/-
  Teams: what is right of them; who is under whom: plain facts.
-/
import Derived.Test.YtdljgjlkfihjdaaGreatDoorRgt
import Derived.Test.YtdljgjlkfihjdaaGreatDoorFirstF
namespace Go.Proofs.YtdljgjlkfihjdaaGreatDoor
open Go.RowKit
set_option linter.unusedVariables false
set_option linter.unusedSimpArgs false

structure Team where
  name : List UInt8
  people : List (List UInt8)
  teams : List (List UInt8)
deriving Inhabited
def namesF (l : List (List UInt8)) (i : Nat) : Int := if isNm (l.getD i []) = false then 5 else if 0 < i ∧ sle (l.getD i []) (l.getD (i - 1) []) = true then 8 else 0
def namesFault (l : List (List UInt8)) : Int := firstF (namesF l) l.length
def teamF (l : List Team) (i : Nat) : Int :=
  if isNm (l.getD i default).name = false then 5 else if 0 < i ∧ sle (l.getD i default).name (l.getD (i - 1) default).name = true then 8
  else if 200 < (l.getD i default).people.length ∨ 200 < (l.getD i default).teams.length then 2
  else if namesFault (l.getD i default).people ≠ 0 then namesFault (l.getD i default).people else namesFault (l.getD i default).teams
def idxFrom : List Team → List UInt8 → Nat → Int
  | [], _, _ => -1
  | t :: l, s, k => if t.name = s then k else idxFrom l s (k + 1)
def teamIdx (l : List Team) (s : List UInt8) : Int := idxFrom l s 0
theorem idxFrom_spec (s : List UInt8) : ∀ (l : List Team) (k : Nat), (∃ (i : Nat) (h : i < l.length), idxFrom l s k = ((k + i : Nat) : Int) ∧ l[i].name = s ∧ ∀ j, (hj : j < i) → (l[j]'(by omega)).name ≠ s) ∨ (idxFrom l s k = -1 ∧ ∀ j, (hj : j < l.length) → l[j].name ≠ s)
  | [], k => .inr ⟨rfl, fun j hj => absurd hj (by simp)⟩
  | t :: l, k => by
    by_cases h : t.name = s
    · left
      refine ⟨0, by simp, ?_, h, fun j hj => absurd hj (by omega)⟩
      rw [idxFrom, if_pos h]; simp
    · rcases idxFrom_spec s l (k + 1) with ⟨i, hi, h1, h2, h3⟩ | ⟨h1, h2⟩
      · left
        refine ⟨i + 1, by simp; omega, ?_, by simpa using h2, fun j hj => ?_⟩
        · rw [idxFrom, if_neg h, h1]; congr 1; omega
        · cases j with
          | zero => simpa using h
          | succ j => simpa using h3 j (by omega)
      · right
        refine ⟨by rw [idxFrom, if_neg h, h1], fun j hj => ?_⟩
        cases j with
        | zero => simpa using h
        | succ j => simpa using h2 j (by simpa using hj)
theorem teamIdx_spec (l : List Team) (s : List UInt8) : (∃ (i : Nat) (h : i < l.length), teamIdx l s = (i : Int) ∧ l[i].name = s ∧ ∀ j, (hj : j < i) → (l[j]'(by omega)).name ≠ s) ∨ (teamIdx l s = -1 ∧ ∀ j, (hj : j < l.length) → l[j].name ≠ s) := by
  have := idxFrom_spec s l 0
  simpa [teamIdx] using this
theorem teamIdx_at {l : List Team} {s : List UInt8} {k : Nat} (hk : k < l.length) (h : l[k].name = s) (hb : ∀ j, (hj : j < k) → (l[j]'(by omega)).name ≠ s) : teamIdx l s = (k : Int) := by
  rcases teamIdx_spec l s with ⟨i, hi, h1, h2, h3⟩ | ⟨h1, h2⟩
  · rcases Nat.lt_trichotomy i k with e | e | e
    · exact absurd h2 (hb i e)
    · rw [h1, e]
    · exact absurd h (h3 k e)
  · exact absurd h (h2 k hk)
theorem teamIdx_none {l : List Team} {s : List UInt8} (h : ∀ j, (hj : j < l.length) → l[j].name ≠ s) : teamIdx l s = -1 := by
  rcases teamIdx_spec l s with ⟨i, hi, h1, h2, h3⟩ | ⟨h1, h2⟩
  · exact absurd h2 (h i hi)
  · exact h1
theorem teamIdx_lt (l : List Team) (s : List UInt8) : -1 ≤ teamIdx l s ∧ teamIdx l s < l.length := by
  rcases teamIdx_spec l s with ⟨i, hi, h1, _, _⟩ | ⟨h1, _⟩ <;> rw [h1] <;> omega
def TSorted (l : List Team) : Prop := ∀ i j, (hi : i < j) → (hj : j < l.length) → slt (l[i]'(by omega)).name l[j].name = true
theorem slt_scmp {a b : List UInt8} : slt a b = true ↔ scmp a b < 0 := by
  unfold slt
  rcases scmp_tri a b with ⟨h1, h2, h3, h4⟩ | ⟨h1, h2, h3, h4⟩ | ⟨h1, h2, h3, h4⟩ <;> rw [h1, h2] <;> simp
theorem sle_not {a b : List UInt8} (h : sle a b = false) : slt b a = true := by
  unfold sle at h
  rw [Bool.or_eq_false_iff, beq_eq_false_iff_ne] at h
  rcases scmp_tri a b with ⟨h1, h2, h3, h4⟩ | ⟨h1, h2, h3, h4⟩ | ⟨h1, h2, h3, h4⟩
  · rw [h2] at h; exact absurd h.1 (by decide)
  · exact absurd h4 h.2
  · exact h3
theorem tsorted_of {l : List Team} (h : ∀ i, (h0 : 0 < i) → (hi : i < l.length) → sle l[i].name (l[i - 1]'(by omega)).name = false) : TSorted l := by
  intro i j hi hj
  induction j with
  | zero => omega
  | succ j ih =>
    have hs : slt (l[j]'(by omega)).name l[j + 1].name = true := by have := sle_not (h (j + 1) (by omega) hj); simpa using this
    by_cases e : i = j
    · subst e; exact hs
    · exact less_trans (ih (by omega) (by omega)) hs
def unkB (l : List Team) : Bool := l.any fun t => t.teams.any fun s => decide (teamIdx l s < 0)
/-- One team has another one. -/
def Edge (l : List Team) (k j : Nat) : Prop := ∃ s, s ∈ (l.getD k default).teams ∧ teamIdx l s = (j : Int)
/-- .. over others. -/
inductive Reach (l : List Team) : Nat → Nat → Prop
  | one {i j : Nat} : Edge l i j → Reach l i j
  | step {i k j : Nat} : Reach l i k → Edge l k j → Reach l i j
theorem edge_lt {l : List Team} {k j : Nat} (h : Edge l k j) : j < l.length := by
  obtain ⟨s, _, h2⟩ := h
  have := (teamIdx_lt l s).2
  omega
theorem reach_lt {l : List Team} {k j : Nat} (h : Reach l k j) : j < l.length := by
  cases h with
  | one h => exact edge_lt h
  | step _ h => exact edge_lt h
def Looped (l : List Team) : Prop := ∃ i, i < l.length ∧ Reach l i i
noncomputable def teamsFault (l : List Team) : Int :=
  if 100 < l.length then 2 else if firstF (teamF l) l.length ≠ 0 then firstF (teamF l) l.length else if unkB l = true then 9 else @ite Int (Looped l) (Classical.propDecidable _) 17 0
theorem teams_1 {l : List Team} (h : 100 < l.length) : teamsFault l = 2 := if_pos h
theorem teams_2 {l : List Team} (h : ¬ 100 < l.length) {i : Nat} (hi : i < l.length) (hS : ∀ j, j < i → teamF l j = 0) {f : Int} (hf : teamF l i = f) (hn : f ≠ 0) : teamsFault l = f := by
  have : firstF (teamF l) l.length = f := by rw [firstF_at hi hS (by rw [hf]; exact hn), hf]
  rw [teamsFault, if_neg h, this, if_pos hn]
theorem teams_3 {l : List Team} (h : ¬ 100 < l.length) (hS : ∀ j, j < l.length → teamF l j = 0) (hu : unkB l = true) : teamsFault l = 9 := by
  rw [teamsFault, if_neg h, firstF_ok hS, if_neg (by decide), if_pos hu]
theorem teams_4 {l : List Team} (h : ¬ 100 < l.length) (hS : ∀ j, j < l.length → teamF l j = 0) (hu : unkB l = false) (hl : Looped l) : teamsFault l = 17 := by
  rw [teamsFault, if_neg h, firstF_ok hS, if_neg (by decide), if_neg (by rw [hu]; decide), if_pos hl]
theorem teams_5 {l : List Team} (h : ¬ 100 < l.length) (hS : ∀ j, j < l.length → teamF l j = 0) (hu : unkB l = false) (hl : ¬ Looped l) : teamsFault l = 0 := by
  rw [teamsFault, if_neg h, firstF_ok hS, if_neg (by decide), if_neg (by rw [hu]; decide), if_neg hl]
/-- What the other functions need of teams. -/
structure TGood (l : List Team) : Prop where
  len : l.length ≤ 100
  sort : TSorted l
  few : ∀ k, (h : k < l.length) → l[k].people.length ≤ 200 ∧ l[k].teams.length ≤ 200
  known : ∀ k, (h : k < l.length) → ∀ s ∈ l[k].teams, 0 ≤ teamIdx l s
theorem teamF_parts {l : List Team} {i : Nat} (hi : i < l.length) (h : teamF l i = 0) : isNm l[i].name = true ∧ (0 < i → sle l[i].name (l[i - 1]'(by omega)).name = false) ∧ l[i].people.length ≤ 200 ∧ l[i].teams.length ≤ 200 := by
  unfold teamF at h
  rw [getD_at _ _ hi, getD_at _ _ (show i - 1 < l.length by omega)] at h
  split at h
  · cases h
  · rename_i h1
    split at h
    · cases h
    · rename_i h2
      split at h
      · cases h
      · rename_i h3
        refine ⟨by simpa using h1, fun h0 => ?_, by omega, by omega⟩
        cases q : sle l[i].name (l[i - 1]'(by omega)).name with
        | false => rfl
        | true => exact absurd ⟨h0, q⟩ h2
theorem tsorted_F {l : List Team} (hS : ∀ j, j < l.length → teamF l j = 0) : TSorted l := tsorted_of fun i h0 hi => (teamF_parts hi (hS i hi)).2.1 h0
theorem known_of {l : List Team} (hu : unkB l = false) : ∀ k, (h : k < l.length) → ∀ s ∈ l[k].teams, 0 ≤ teamIdx l s := by
  intro k h s hs
  unfold unkB at hu
  rw [List.any_eq_false] at hu
  have h1 := hu l[k] (List.getElem_mem h)
  rw [Bool.not_eq_true, List.any_eq_false] at h1
  have h2 := h1 s hs
  simp at h2
  omega
theorem tgood_of {l : List Team} (h : ¬ 100 < l.length) (hS : ∀ j, j < l.length → teamF l j = 0) (hu : unkB l = false) : TGood l :=
  ⟨by omega, tsorted_F hS, fun k hk => (teamF_parts hk (hS k hk)).2.2, known_of hu⟩
theorem teams_good {l : List Team} (h : teamsFault l = 0) : TGood l ∧ ¬ Looped l := by
  unfold teamsFault at h
  split at h
  · cases h
  · rename_i h1
    split at h
    · rename_i h2; exact absurd h h2
    · rename_i h2
      split at h
      · cases h
      · rename_i h3
        have hS := firstF_all (Decidable.not_not.1 h2)
        refine ⟨tgood_of h1 hS (by simpa using h3), fun hl => ?_⟩
        rw [if_pos hl] at h
        cases h
/-- What a search keeps: cur marks what is under fr, todo is still to be looked at. -/
structure Dfs (l : List Team) (fr : Nat) (cur : List Bool) (todo : List Nat) : Prop where
  len : cur.length = l.length
  td : ∀ x ∈ todo, x < l.length ∧ (x = fr ∨ cur.getD x false = true)
  snd : ∀ j, cur.getD j false = true → Reach l fr j
  cls : ∀ k, k < l.length → (k = fr ∨ cur.getD k false = true) → k ∉ todo → ∀ j : Nat, Edge l k j → cur.getD j false = true
/-- .. while the teams of k are gone through, m of them up to now. -/
structure DfsIn (l : List Team) (fr : Nat) (cur : List Bool) (todo : List Nat) (k m : Nat) : Prop where
  len : cur.length = l.length
  klt : k < l.length
  kin : k = fr ∨ cur.getD k false = true
  td : ∀ x ∈ todo, x < l.length ∧ (x = fr ∨ cur.getD x false = true)
  snd : ∀ j, cur.getD j false = true → Reach l fr j
  cls : ∀ k', k' < l.length → k' ≠ k → (k' = fr ∨ cur.getD k' false = true) → k' ∉ todo → ∀ j : Nat, Edge l k' j → cur.getD j false = true
  done : ∀ s, s ∈ ((l.getD k default).teams.take m) → ∀ j : Nat, teamIdx l s = (j : Int) → cur.getD j false = true
section
variable {l : List Team} {fr : Nat} {cur : List Bool} {todo old : List Nat} {k m : Nat}
theorem getD_rep (n j : Nat) : (List.replicate n false).getD j false = false := by
  rw [List.getD_eq_getElem?_getD, List.getElem?_replicate]; split <;> rfl
theorem dfs_start (hf : fr < l.length) : Dfs l fr (List.replicate l.length false) [fr] :=
  ⟨by simp, fun x hx => ⟨by rw [List.mem_singleton.1 hx]; exact hf, .inl (List.mem_singleton.1 hx)⟩, fun j hj => absurd ((getD_rep _ _).symm.trans hj) (by decide),
    fun k _ hk hn => by
      rw [getD_rep] at hk
      rcases hk with h | h
      · exact absurd (by rw [h]; simp) hn
      · cases h⟩
theorem dfs_pop (h : Dfs l fr cur old) (hp : ∀ x, x ∈ old ↔ x = k ∨ x ∈ todo) : DfsIn l fr cur todo k 0 :=
  ⟨h.len, (h.td k ((hp k).2 (.inl rfl))).1, (h.td k ((hp k).2 (.inl rfl))).2, fun x hx => h.td x ((hp x).2 (.inr hx)), h.snd,
    fun k' hk' hne hin hnt => h.cls k' hk' hin (fun e => ((hp k').1 e).elim hne hnt), fun s hs => by rw [List.take_zero] at hs; cases hs⟩
theorem take_one {α : Type} {xs : List α} {m : Nat} (hm : m < xs.length) {s : α} : s ∈ xs.take (m + 1) → s ∈ xs.take m ∨ s = xs[m] := by
  rw [List.take_succ_eq_append_getElem hm, List.mem_append, List.mem_singleton]; exact id
theorem dfs_old (h : DfsIn l fr cur todo k m) (hm : m < (l.getD k default).teams.length) {j : Nat} (hj : teamIdx l ((l.getD k default).teams[m]) = (j : Int)) (hc : cur.getD j false = true) : DfsIn l fr cur todo k (m + 1) :=
  ⟨h.len, h.klt, h.kin, h.td, h.snd, h.cls, fun s hs j' hj' => by
    rcases take_one hm hs with e | e
    · exact h.done s e j' hj'
    · subst e
      rw [hj] at hj'
      obtain rfl : j = j' := by omega
      exact hc⟩
theorem getD_set (cur : List Bool) (j x : Nat) (hj : j < cur.length) : (cur.set j true).getD x false = if x = j then true else cur.getD x false := by
  rw [List.getD_eq_getElem?_getD, List.getD_eq_getElem?_getD, List.getElem?_set]
  by_cases e : j = x
  · subst e; simp [hj]
  · simp [e, Ne.symm e]
theorem dfs_new (h : DfsIn l fr cur todo k m) (hm : m < (l.getD k default).teams.length) {j : Nat} (hj : teamIdx l ((l.getD k default).teams[m]) = (j : Int)) {more : List Nat} (hp : ∀ x, x ∈ more ↔ x ∈ todo ∨ x = j) : DfsIn l fr (cur.set j true) more k (m + 1) := by
  have hlt : j < l.length := by have := (teamIdx_lt l ((l.getD k default).teams[m])).2; omega
  have hjc : j < cur.length := by rw [h.len]; exact hlt
  have hedge : Edge l k j := ⟨_, List.getElem_mem hm, hj⟩
  have hup : ∀ x, cur.getD x false = true → (cur.set j true).getD x false = true := fun x hx => by
    rw [getD_set _ _ _ hjc]; split
    · rfl
    · exact hx
  have hself : (cur.set j true).getD j false = true := by rw [getD_set _ _ _ hjc, if_pos rfl]
  have hreach : Reach l fr j := by
    rcases h.kin with e | e
    · subst e; exact .one hedge
    · exact .step (h.snd k e) hedge
  refine ⟨by rw [List.length_set]; exact h.len, h.klt, h.kin.imp id (hup k), fun x hx => ?_, fun x hx => ?_, fun k' hk' hne hin hnt j' hj' => ?_, fun s hs j' hj' => ?_⟩
  · rcases (hp x).1 hx with e | e
    · exact ⟨(h.td x e).1, (h.td x e).2.imp id (hup x)⟩
    · subst e; exact ⟨hlt, .inr hself⟩
  · rw [getD_set _ _ _ hjc] at hx
    split at hx
    · rename_i e; subst e; exact hreach
    · exact h.snd x hx
  · have hnj : k' ≠ j := fun e => hnt ((hp k').2 (.inr e))
    have hin' : k' = fr ∨ cur.getD k' false = true := hin.imp id fun e => by rw [getD_set _ _ _ hjc, if_neg hnj] at e; exact e
    exact hup j' (h.cls k' hk' hne hin' (fun e => hnt ((hp k').2 (.inl e))) j' hj')
  · rcases take_one hm hs with e | e
    · exact hup j' (h.done s e j' hj')
    · subst e
      rw [hj] at hj'
      obtain rfl : j = j' := by omega
      exact hself
theorem dfs_end (h : DfsIn l fr cur todo k (l.getD k default).teams.length) : Dfs l fr cur todo :=
  ⟨h.len, h.td, h.snd, fun k' hk' hin hnt j hj => by
    by_cases e : k' = k
    · subst e
      obtain ⟨s, hs, hsj⟩ := hj
      exact h.done s (by rw [List.take_length]; exact hs) j hsj
    · exact h.cls k' hk' e hin hnt j hj⟩
theorem dfs_over (hf : fr < l.length) (h : Dfs l fr cur []) (j : Nat) : cur.getD j false = true ↔ Reach l fr j := by
  refine ⟨h.snd j, fun hr => ?_⟩
  induction hr with
  | one he => exact h.cls fr hf (.inl rfl) (by simp) _ he
  | step hr he ih => exact h.cls _ (reach_lt hr) (.inr ih) (by simp) _ he
theorem cnt_set {j : Nat} (hj : j < cur.length) (hc : cur.getD j false = false) : (cur.set j true).count false + 1 = cur.count false := by
  induction cur generalizing j with
  | nil => simp at hj
  | cons b c ih =>
    cases j with
    | zero => simp at hc; subst hc; simp
    | succ j =>
      have := ih (j := j) (by simpa using hj) (by simpa using hc)
      rw [List.set_cons_succ, List.count_cons, List.count_cons]
      omega
end
/-- Somebody is in a team. -/
def InT (l : List Team) (i : Nat) (who : List UInt8) : Prop := who ∈ (l.getD i default).people ∨ ∃ j, Reach l i j ∧ who ∈ (l.getD j default).people
noncomputable def inB (l : List Team) (i : Nat) (who : List UInt8) : Bool := @decide (InT l i who) (Classical.propDecidable _)
theorem inB_yes {l : List Team} {i : Nat} {who : List UInt8} (h : InT l i who) : inB l i who = true := @decide_eq_true _ (Classical.propDecidable _) h
theorem inB_no {l : List Team} {i : Nat} {who : List UInt8} (h : ¬ InT l i who) : inB l i who = false := @decide_eq_false _ (Classical.propDecidable _) h
theorem inB_iff {l : List Team} {i : Nat} {who : List UInt8} : inB l i who = true ↔ InT l i who := ⟨fun h => @of_decide_eq_true _ (Classical.propDecidable _) h, inB_yes⟩
/-- The teams that somebody is in, of the first n. -/
noncomputable def teamsOf (l : List Team) (who : List UInt8) : Nat → List (List UInt8)
  | 0 => []
  | n + 1 => if inB l n who = true then teamsOf l who n ++ [(l.getD n default).name] else teamsOf l who n
theorem teamsOf_len (l : List Team) (who : List UInt8) : ∀ n, (teamsOf l who n).length ≤ n
  | 0 => by simp [teamsOf]
  | n + 1 => by
    have := teamsOf_len l who n
    rw [teamsOf]; split
    · simp; omega
    · omega
end Go.Proofs.YtdljgjlkfihjdaaGreatDoor
