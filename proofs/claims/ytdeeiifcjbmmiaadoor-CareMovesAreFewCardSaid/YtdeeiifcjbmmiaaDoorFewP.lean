/-
  The moves when one site goes or comes: plain facts.
-/
import Derived.Test.YtdeeiifcjbmmiaaDoorMvP
namespace Go.Proofs.YtdeeiifcjbmmiaaDoor
open Go.RowKit
set_option linter.unusedVariables false

theorem names_nodup {s : List Site} (h : SOk s) : (s.map (·.name)).Nodup := by
  rw [List.Nodup, List.pairwise_map]
  exact h.rise.imp (fun {a b} h => bl_ne h)
theorem sbs_erase (s : List Site) (i : Nat) : sbs (s.eraseIdx i) = (sbs s).eraseIdx i := by
  unfold sbs
  rw [List.eraseIdx_eq_take_drop_succ, List.eraseIdx_eq_take_drop_succ, List.map_append, List.map_take, List.map_drop]
theorem erase_perm {α : Type} {l : List α} {i : Nat} (h : i < l.length) : (l[i] :: l.eraseIdx i).Perm l := by
  rw [List.eraseIdx_eq_take_drop_succ]
  refine List.perm_middle.symm.trans ?_
  rw [← List.drop_eq_getElem_cons h, List.take_append_drop]
theorem sbs_name {s : List Site} (h : SOk s) {i : Nat} (hi : i < s.length) (hi2 : i < (sbs s).length) : ((sbs s)[i]).1.name = s[i].name := by
  have e : (sbs s)[i] = toSb s[i] := List.getElem_map toSb
  rw [e, toSb_val (sok_2 h _ (List.getElem_mem hi))]
/-- The order of the sites without one is that of all of them, without it. -/
theorem few_split {s : List Site} (h : SOk s) {i : Nat} (hi : i < s.length) (h' : SOk (s.eraseIdx i)) (it : List UInt8) :
    ∃ p q : List (List UInt8), (p ++ s[i].name :: q).Nodup ∧ ∀ M, plL s it M = (p ++ s[i].name :: q).take M ∧ plL (s.eraseIdx i) it M = (p ++ q).take M := by
  have hi2 : i < (sbs s).length := by unfold sbs; rw [List.length_map]; exact hi
  have ho := insAll_ord (item := it) _ (sbs_rise (sok_2 h) h.rise)
  have ho' := insAll_ord (item := it) _ (sbs_rise (sok_2 h') h'.rise)
  have hm : (sbs s)[i] ∈ insAll it (sbs s) := ho.1.mem_iff.2 (List.getElem_mem hi2)
  obtain ⟨P, Q, e⟩ := List.append_of_mem hm
  have hpq : OrdS it (sbs (s.eraseIdx i)) (P ++ Q) := by
    refine ⟨?_, ?_⟩
    · have h1 := ho.1
      rw [e] at h1
      have h2 : ((sbs s)[i] :: (P ++ Q)).Perm ((sbs s)[i] :: (sbs s).eraseIdx i) := (List.perm_middle.symm.trans h1).trans (erase_perm hi2).symm
      rw [sbs_erase]
      exact h2.cons_inv
    · have h1 := ho.2
      rw [e] at h1
      exact h1.sublist (List.Sublist.append (List.Sublist.refl _) (List.sublist_cons_self ..))
  have e' : insAll it (sbs (s.eraseIdx i)) = P ++ Q := ord_unique ho' hpq
  have hn := sbs_name h hi hi2
  have hnd : ((insAll it (sbs s)).map (·.1.name)).Nodup := by
    have h1 := ho.1.map (fun x : Sb => x.1.name)
    refine h1.nodup_iff.2 ?_
    have h2 := names_nodup h
    rw [← sbs_val (sok_2 h), List.map_map] at h2
    exact h2
  refine ⟨P.map (·.1.name), Q.map (·.1.name), ?_, fun M => ⟨?_, ?_⟩⟩
  · rw [e, List.map_append, List.map_cons, hn] at hnd
    exact hnd
  · unfold plL
    rw [e, List.map_take, List.map_append, List.map_cons, hn]
  · unfold plL
    rw [e', List.map_take, List.map_append]
theorem newL_perm (was l : List (List UInt8)) : (newL was (srtN l)).Perm (l.filter fun x => decide (¬ x ∈ was)) := (srtN_perm l).filter _
theorem filt_nil {was l : List (List UInt8)} (h : ∀ x ∈ l, x ∈ was) : (l.filter fun x => decide (¬ x ∈ was)) = [] := by
  rw [List.filter_eq_nil_iff]
  intro x hx
  simp [h x hx]
theorem few_gone {p q : List (List UInt8)} {n : List UInt8} {M : Nat} (hM : 1 ≤ M) :
    (newL ((p ++ n :: q).take M) (srtN ((p ++ q).take M))).length ≤ 1 ∧ (newL ((p ++ n :: q).take M) (srtN ((p ++ q).take M)) ≠ [] → n ∈ (p ++ n :: q).take M) := by
  have hp := newL_perm ((p ++ n :: q).take M) ((p ++ q).take M)
  by_cases hc : M ≤ p.length
  · have e1 : (p ++ n :: q).take M = p.take M := List.take_append_of_le_length hc
    have e2 : (p ++ q).take M = p.take M := List.take_append_of_le_length hc
    rw [e1, e2, filt_nil (fun x hx => hx)] at hp
    rw [e1, e2, hp.eq_nil]
    exact ⟨Nat.zero_le _, fun h => absurd rfl h⟩
  · obtain ⟨m, rfl⟩ : ∃ m, M = p.length + (m + 1) := ⟨M - p.length - 1, by omega⟩
    have e1 : (p ++ n :: q).take (p.length + (m + 1)) = p ++ n :: q.take m := by rw [List.take_length_add_append, List.take_succ_cons]
    have e2 : (p ++ q).take (p.length + (m + 1)) = p ++ q.take (m + 1) := by rw [List.take_length_add_append]
    rw [e1, e2] at hp ⊢
    refine ⟨?_, fun _ => by simp⟩
    rw [hp.length_eq, List.filter_append, filt_nil (was := p ++ n :: q.take m) (l := p) (fun x hx => List.mem_append_left _ hx), List.nil_append]
    by_cases hq : m < q.length
    · rw [List.take_succ_eq_append_getElem hq, List.filter_append, filt_nil (was := p ++ n :: q.take m) (l := q.take m) (fun x hx => List.mem_append_right _ (List.mem_cons_of_mem _ hx)), List.nil_append]
      exact List.length_filter_le _ _
    · rw [List.take_of_length_le (show q.length ≤ m + 1 by omega), filt_nil (was := p ++ n :: q.take m) (l := q) (fun x hx => List.mem_append_right _ (List.mem_cons_of_mem _ (by rw [List.take_of_length_le (by omega)]; exact hx)))]
      exact Nat.zero_le _
theorem few_back {p q : List (List UInt8)} {n : List UInt8} {M : Nat} (hM : 1 ≤ M) :
    (newL ((p ++ q).take M) (srtN ((p ++ n :: q).take M))).length ≤ 1 ∧ ∀ x ∈ newL ((p ++ q).take M) (srtN ((p ++ n :: q).take M)), x = n := by
  have hp := newL_perm ((p ++ q).take M) ((p ++ n :: q).take M)
  by_cases hc : M ≤ p.length
  · have e1 : (p ++ n :: q).take M = p.take M := List.take_append_of_le_length hc
    have e2 : (p ++ q).take M = p.take M := List.take_append_of_le_length hc
    rw [e1, e2, filt_nil (fun x hx => hx)] at hp
    rw [e1, e2, hp.eq_nil]
    exact ⟨Nat.zero_le _, fun x hx => absurd hx (by simp)⟩
  · obtain ⟨m, rfl⟩ : ∃ m, M = p.length + (m + 1) := ⟨M - p.length - 1, by omega⟩
    have e1 : (p ++ n :: q).take (p.length + (m + 1)) = p ++ n :: q.take m := by rw [List.take_length_add_append, List.take_succ_cons]
    have e2 : (p ++ q).take (p.length + (m + 1)) = p ++ q.take (m + 1) := by rw [List.take_length_add_append]
    rw [e1, e2] at hp ⊢
    have hsub : ∀ x ∈ q.take m, x ∈ p ++ q.take (m + 1) := fun x hx => List.mem_append_right _ (by
      have h : (q.take (m + 1)).take m = q.take m := by rw [List.take_take]; congr 1; omega
      rw [← h] at hx
      exact List.mem_of_mem_take hx)
    have hf : ((p ++ n :: q.take m).filter fun x => decide (¬ x ∈ p ++ q.take (m + 1))) = [n].filter fun x => decide (¬ x ∈ p ++ q.take (m + 1)) := by
      rw [List.filter_append, filt_nil (was := p ++ q.take (m + 1)) (l := p) (fun x hx => List.mem_append_left _ hx), List.nil_append, show n :: q.take m = [n] ++ q.take m from rfl, List.filter_append, filt_nil (was := p ++ q.take (m + 1)) (l := q.take m) hsub, List.append_nil]
    rw [hf] at hp
    refine ⟨?_, fun x hx => ?_⟩
    · rw [hp.length_eq]
      exact List.length_filter_le _ _
    · have := (List.mem_filter.1 (hp.mem_iff.1 hx)).1
      exact List.mem_singleton.1 this
theorem mvIn_item {bef aft : List Site} {M : Nat} {it : List UInt8} {m : Mv} (h : m ∈ mvIn bef aft M it) : m.item = it ∧ m.to_ ∈ newL (plL bef it M) (srtN (plL aft it M)) := by
  obtain ⟨x, hx, rfl⟩ := List.mem_map.1 h
  exact ⟨rfl, hx⟩
theorem few_items {bef aft : List Site} {M : Nat} : ∀ {its : List (List UInt8)}, its.Pairwise (fun a b => Op.bytesLess a b = true) → (∀ it ∈ its, (mvIn bef aft M it).length ≤ 1) → (mvAll bef aft its M).Pairwise (fun a b => a.item ≠ b.item)
  | [], _, _ => List.Pairwise.nil
  | it :: its, hp, h => by
    obtain ⟨h1, h2⟩ := List.pairwise_cons.1 hp
    have ih := few_items h2 (fun x hx => h x (List.mem_cons_of_mem _ hx))
    have h0 := h it (List.mem_cons_self ..)
    unfold mvAll at ih ⊢
    rw [List.flatMap_cons, List.pairwise_append]
    refine ⟨?_, ih, fun a ha b hb => ?_⟩
    · match hl : mvIn bef aft M it, h0 with
      | [], _ => exact List.Pairwise.nil
      | [a], _ => exact List.pairwise_singleton _ _
      | a :: b :: r, h0 => simp at h0
    · obtain ⟨it2, hi2, hb⟩ := List.mem_flatMap.1 hb
      rw [(mvIn_item ha).1, (mvIn_item hb).1]
      exact bl_ne (h1 it2 hi2)
/-- What is told of the moves when a site goes. -/
structure GoneOk (s : List Site) (n : List UInt8) (its : List (List UInt8)) (M : Nat) (l : List Mv) : Prop where
  items : l.Pairwise (fun a b => a.item ≠ b.item)
  mem : ∀ m ∈ l, m.item ∈ its ∧ m.item ≠ [] ∧ n ∈ plL s m.item M
structure BackOk (n : List UInt8) (l : List Mv) : Prop where
  items : l.Pairwise (fun a b => a.item ≠ b.item)
  mem : ∀ m ∈ l, m.item ≠ [] ∧ m.to_ = n
theorem gone_ok {s : List Site} (h : SOk s) {i : Nat} (hi : i < s.length) (h' : SOk (s.eraseIdx i)) {its : List (List UInt8)} (hp : its.Pairwise (fun a b => Op.bytesLess a b = true)) (hn : ∀ x ∈ its, isNm x = true) {M : Nat} (hM : 1 ≤ M) : GoneOk s s[i].name its M (mvAll s (s.eraseIdx i) its M) := by
  have key : ∀ it, (newL (plL s it M) (srtN (plL (s.eraseIdx i) it M))).length ≤ 1 ∧ (newL (plL s it M) (srtN (plL (s.eraseIdx i) it M)) ≠ [] → s[i].name ∈ plL s it M) := fun it => by
    obtain ⟨p, q, _, hpq⟩ := few_split h hi h' it
    rw [(hpq M).1, (hpq M).2]
    exact few_gone hM
  refine ⟨few_items hp (fun it _ => by unfold mvIn; rw [List.length_map]; exact (key it).1), fun m hm => ?_⟩
  obtain ⟨it, hit, hm⟩ := List.mem_flatMap.1 hm
  obtain ⟨e, ht⟩ := mvIn_item hm
  refine ⟨by rw [e]; exact hit, fun e2 => ?_, ?_⟩
  · have := nm_len (hn it hit)
    rw [← e, e2] at this
    exact absurd this.1 (by decide)
  · rw [e]
    exact (key it).2 (fun e2 => by rw [e2] at ht; exact absurd ht (by simp))
theorem back_ok {s : List Site} (h : SOk s) {i : Nat} (hi : i < s.length) (h' : SOk (s.eraseIdx i)) {its : List (List UInt8)} (hp : its.Pairwise (fun a b => Op.bytesLess a b = true)) (hn : ∀ x ∈ its, isNm x = true) {M : Nat} (hM : 1 ≤ M) : BackOk s[i].name (mvAll (s.eraseIdx i) s its M) := by
  have key : ∀ it, (newL (plL (s.eraseIdx i) it M) (srtN (plL s it M))).length ≤ 1 ∧ ∀ x ∈ newL (plL (s.eraseIdx i) it M) (srtN (plL s it M)), x = s[i].name := fun it => by
    obtain ⟨p, q, _, hpq⟩ := few_split h hi h' it
    rw [(hpq M).1, (hpq M).2]
    exact few_back hM
  refine ⟨few_items hp (fun it _ => by unfold mvIn; rw [List.length_map]; exact (key it).1), fun m hm => ?_⟩
  obtain ⟨it, hit, hm⟩ := List.mem_flatMap.1 hm
  obtain ⟨e, ht⟩ := mvIn_item hm
  refine ⟨fun e2 => ?_, (key it).2 _ ht⟩
  have := nm_len (hn it hit)
  rw [← e, e2] at this
  exact absurd this.1 (by decide)
end Go.Proofs.YtdeeiifcjbmmiaaDoor
