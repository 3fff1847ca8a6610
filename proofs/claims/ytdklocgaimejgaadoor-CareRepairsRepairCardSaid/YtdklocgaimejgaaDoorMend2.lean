/-
  Repairs repair: plain facts (2): the copies after repairs, and how they are voted on.
-/
import Derived.Test.YtdklocgaimejgaaDoorMend1
namespace Go.Proofs.YtdklocgaimejgaaDoor
open Go.RowKit
set_option linter.unusedVariables false
set_option linter.unusedSimpArgs false

theorem hs_ne {l : List Held} (hs : HSorted l) {a b : Held} (ha : a ∈ l) (hb : b ∈ l) (h : a.item = b.item ∧ a.site = b.site) : a = b := by
  obtain ⟨i, hi, rfl⟩ := List.getElem_of_mem ha
  obtain ⟨j, hj, rfl⟩ := List.getElem_of_mem hb
  have he := (hc_eq _ _).2 h
  rcases Nat.lt_trichotomy i j with h1 | h1 | h1
  · have := sorted_lt hs h1 hj; omega
  · subst h1; rfl
  · have := (hc_gt _ _).2 (sorted_lt hs h1 hi); omega
theorem putL_mem_iff : ∀ (L : List Held) (h z : Held), HSorted L → (z ∈ putL L h ↔ z = h ∨ (z ∈ L ∧ ¬ (z.item = h.item ∧ z.site = h.site)))
  | [], h, z, _ => by simp [putL]
  | y :: L, h, z, hs => by
    obtain ⟨h1, h2⟩ := List.pairwise_cons.1 hs
    rw [putL]
    split
    · rename_i hy
      have hne : ¬ (y.item = h.item ∧ y.site = h.site) := fun q => by have := (hc_eq y h).2 q; omega
      rw [List.mem_cons, putL_mem_iff L h z h2, List.mem_cons]
      constructor
      · rintro (rfl | rfl | ⟨q1, q2⟩)
        · exact .inr ⟨.inl rfl, hne⟩
        · exact .inl rfl
        · exact .inr ⟨.inr q1, q2⟩
      · rintro (rfl | ⟨rfl | q1, q2⟩)
        · exact .inr (.inl rfl)
        · exact .inl rfl
        · exact .inr (.inr ⟨q1, q2⟩)
    · split
      · rename_i hn hy
        have hk := (hc_eq y h).1 hy
        rw [List.mem_cons, List.mem_cons]
        constructor
        · rintro (rfl | q)
          · exact .inl rfl
          · refine .inr ⟨.inr q, fun e => ?_⟩
            have := h1 z q
            have e2 := (hc_eq z h).2 e
            rw [hc_congr hy] at this
            have := (hc_gt z h).2 this
            omega
        · rintro (rfl | ⟨rfl | q1, q2⟩)
          · exact .inl rfl
          · exact absurd hk q2
          · exact .inr q1
      · rename_i hn hy
        have hgt : heldCmp h y < 0 := (hc_gt y h).1 (by omega)
        rw [List.mem_cons]
        constructor
        · rintro (rfl | q)
          · exact .inl rfl
          · refine .inr ⟨q, fun e => ?_⟩
            have e2 := (hc_eq z h).2 e
            rcases List.mem_cons.1 q with rfl | q
            · exact hy e2
            · have := hc_tr hgt (h1 z q)
              have := (hc_gt z h).2 this
              omega
        · rintro (rfl | ⟨q, _⟩)
          · exact .inl rfl
          · exact .inr q
theorem fold_mem (l : List Held) : ∀ (R : List Rpr) (L : List Held) (z : Held), HSorted L → R.Pairwise (fun a b => ¬ (a.item = b.item ∧ a.to = b.to)) →
    (z ∈ R.foldl (fun out x => putL out (rprHeld l x)) L ↔ (∃ r ∈ R, z = rprHeld l r) ∨ (z ∈ L ∧ ∀ r ∈ R, ¬ (z.item = r.item ∧ z.site = r.to)))
  | [], L, z, _, _ => by simp
  | r :: R, L, z, hs, hp => by
    obtain ⟨h1, h2⟩ := List.pairwise_cons.1 hp
    rw [List.foldl_cons, fold_mem l R _ z (putL_sorted L _ hs) h2, putL_mem_iff L _ z hs]
    constructor
    · rintro (⟨x, hx, rfl⟩ | ⟨rfl | ⟨q1, q2⟩, q3⟩)
      · exact .inl ⟨x, by simp [hx], rfl⟩
      · exact .inl ⟨r, by simp, rfl⟩
      · refine .inr ⟨q1, fun x hx => ?_⟩
        rcases List.mem_cons.1 hx with rfl | hx
        · exact q2
        · exact q3 x hx
    · rintro (⟨x, hx, rfl⟩ | ⟨q1, q2⟩)
      · rcases List.mem_cons.1 hx with rfl | hx
        · exact .inr ⟨.inl rfl, fun y hy => h1 y hy⟩
        · exact .inl ⟨x, hx, rfl⟩
      · exact .inr ⟨.inr ⟨q1, q2 r (by simp)⟩, fun x hx => q2 x (by simp [hx])⟩
theorem heldL_mem : ∀ {l : List Held}, HSorted l → ∀ {h : Held}, h ∈ l → heldL h.item h.site l = h.digest
  | [], _, h, hm => by simp at hm
  | y :: l, hs, h, hm => by
    obtain ⟨h1, h2⟩ := List.pairwise_cons.1 hs
    rw [heldL]
    split
    · rename_i e
      rw [hs_ne hs (a := y) (b := h) (by simp) hm e]
    · rename_i e
      rcases List.mem_cons.1 hm with rfl | hm
      · exact absurd ⟨rfl, rfl⟩ e
      · exact heldL_mem h2 hm
/-- A vote on copies that are all alike. -/
theorem ofW_all {s : List Site} {d : List UInt8} : ∀ {p : List Held}, (∀ h ∈ p, h.digest = d) → ofW s d p = sumW s p
  | [], _ => rfl
  | h :: p, hd => by rw [ofW, sumW, if_pos (hd h (by simp)), ofW_all fun x hx => hd x (by simp [hx])]
theorem go_all {s : List Site} {d : List UInt8} {all : List Held} (hw : 0 < sumW s all) (ho : ofW s d all = sumW s all) : ∀ {p : List Held} {e : List UInt8}, (∀ h ∈ p, h.digest = d) → p ≠ [] ∨ e = d → voteDigGo s all p e = d
  | [], e, _, h => by rcases h with h | h; exact absurd rfl h; exact h
  | h :: p, e, hd, _ => by
    have h1 := hd h (by simp)
    rw [voteDigGo, h1, if_pos (by rw [ho]; omega)]
    exact go_all hw ho (fun x hx => hd x (by simp [hx])) (.inr rfl)
theorem vote_all {s : List Site} {d : List UInt8} {p : List Held} (h0 : p ≠ []) (hw : 0 < sumW s p) (hd : ∀ h ∈ p, h.digest = d) : (voteOf s p).digest = d ∧ (voteOf s p).right.length = p.length ∧ (voteOf s p).wrong = [] := by
  have hv : voteDig s p = d := go_all hw (ofW_all hd) hd (.inl h0)
  refine ⟨hv, ?_, ?_⟩
  · show (sitesOf (isD (voteDig s p)) p).length = _
    rw [sitesOf, List.length_map, List.filter_eq_self.2 (fun x hx => by rw [hv]; exact decide_eq_true (hd x hx))]
  · show sitesOf (notD (voteDig s p)) p = []
    rw [sitesOf, List.filter_eq_nil_iff.2 (fun x hx => by rw [hv]; simp [notD, hd x hx])]
    rfl
theorem sumW_pos {s : List Site} {p : List Held} (h0 : p ≠ []) (h : ∀ x ∈ p, 1 ≤ wtOf s x ∧ wtOf s x ≤ 1000) : 0 < sumW s p := by
  cases p with
  | nil => exact absurd rfl h0
  | cons a p =>
    have h1 := h a (by simp)
    have h2 := sumW_range (s := s) (l := p) fun x hx => h x (by simp [hx])
    rw [sumW]; omega
/-- What a copy is, where copies are without fault. -/
theorem copy_ok {s : List Site} {l : List Held} (h : copiesFault s l = 0) {x : Held} (hx : x ∈ l) : isNm x.item = true ∧ (∃ k : Nat, k < s.length ∧ siteIdx s x.site = k) ∧ isDig x.digest = true := by
  obtain ⟨j, hj, rfl⟩ := List.getElem_of_mem hx
  have hf := (copies_ok h).2.2 j hj
  unfold heldF at hf
  rw [getD_at _ _ hj] at hf
  split at hf
  · omega
  · rename_i h1
    split at hf
    · omega
    · rename_i h2
      split at hf
      · omega
      · rename_i h3
        refine ⟨by simpa using h1, ?_, by simpa using h3⟩
        rcases siteIdx_range s l[j].site with ⟨e, _⟩ | ⟨k, hk, e, _⟩
        · rw [e] at h2; omega
        · exact ⟨k, hk, e⟩
theorem copies_mk {s : List Site} {l : List Held} (h0 : sitesFault s = 0) (h3 : l.length ≤ 3000) (hs : HSorted l) (h : ∀ x ∈ l, isNm x.item = true ∧ (∃ k : Nat, k < s.length ∧ siteIdx s x.site = k) ∧ isDig x.digest = true) : copiesFault s l = 0 := by
  refine copiesFault_ok h0 (by omega) fun j hj => ?_
  obtain ⟨h1, ⟨k, _, h2⟩, h4⟩ := h _ (List.getElem_mem hj)
  refine heldF_5 hj h1 (by rw [h2]; omega) h4 ?_
  rintro ⟨q, hb⟩
  rw [← heldBad_cmp, decide_eq_true_iff] at hb
  have := sorted_lt hs (show j - 1 < j by omega) hj
  omega
theorem vote_right {s : List Site} {l : List Held} (hs : HSorted l) {v : Vote} (hv : v ∈ votesOf s l) : (∀ f, f ∈ v.right ↔ ∃ h ∈ l, h.item = v.item ∧ h.digest = v.digest ∧ h.site = f) ∧ v = voteOf s (l.filter (ofIt v.item)) ∧ ∃ h ∈ l, h.item = v.item := by
  obtain ⟨p, hp0, hp1, hp2⟩ := votesOf_part (hs_iff.1 hs) hv
  rw [hp2] at hp1
  refine ⟨fun f => ?_, hp1, ?_⟩
  · have hr : v.right = sitesOf (isD v.digest) (l.filter (ofIt v.item)) := by
      conv => lhs; rw [hp1]
      show sitesOf (isD (voteDig s _)) _ = _
      congr 2
      conv => rhs; rw [hp1]
      rfl
    rw [hr, sitesOf]
    constructor
    · intro hf
      obtain ⟨h, hh, rfl⟩ := List.mem_map.1 hf
      rw [List.mem_filter, List.mem_filter] at hh
      exact ⟨h, hh.1.1, of_decide_eq_true hh.1.2, of_decide_eq_true hh.2, rfl⟩
    · rintro ⟨h, h1, h2, h3, rfl⟩
      exact List.mem_map.2 ⟨h, List.mem_filter.2 ⟨List.mem_filter.2 ⟨h1, decide_eq_true h2⟩, decide_eq_true h3⟩, rfl⟩
  · rw [hp2] at hp0
    obtain ⟨x, hx⟩ := List.exists_mem_of_ne_nil _ hp0
    rw [List.mem_filter] at hx
    exact ⟨x, hx.1, of_decide_eq_true hx.2⟩
theorem vote_same {s : List Site} {l : List Held} (hs : HSorted l) {v u : Vote} (hv : v ∈ votesOf s l) (hu : u ∈ votesOf s l) (h : v.item = u.item) : v = u := by
  rw [(vote_right hs hv).2.1, (vote_right hs hu).2.1, h]
theorem site_idx {s : List Site} {x : Site} (hx : x ∈ s) : ∃ k : Nat, k < s.length ∧ siteIdx s x.name = k := by
  rcases siteIdx_range s x.name with ⟨_, h⟩ | ⟨k, hk, e, _⟩
  · exact absurd rfl (h x hx)
  · exact ⟨k, hk, e⟩
theorem idx_site {s : List Site} {t : List UInt8} {k : Nat} (hk : k < s.length) (h : siteIdx s t = k) : ∃ x ∈ s, x.name = t := by
  rcases siteIdx_range s t with ⟨e, _⟩ | ⟨j, hj, e, e2⟩
  · rw [e] at h; omega
  · exact ⟨_, List.getElem_mem hj, e2⟩
section
variable {s : List Site} {l : List Held} {costs : List Cst} {mo : Nat}
/-- Each repair. -/
theorem rep_ok (hc : copiesFault s l = 0) {r : Rpr} (hr : r ∈ (repL s costs (mo : Int) (votesOf s l)).1) :
    ∃ v ∈ votesOf s l, ∃ x ∈ s, v.digest ≠ [] ∧ x.name ∉ v.right ∧ r.item = v.item ∧ r.frm ∈ v.right ∧ r.to = x.name ∧ heldL r.item r.frm l = v.digest ∧ isDig v.digest = true ∧ isNm r.item = true := by
  obtain ⟨v, hv, x, hx, h1, h2, h3, h4, h5, h6⟩ := repL_mem hr
  have hs := copies_hs hc
  obtain ⟨g1, g2, _⟩ := vote_right hs hv
  have hfr : r.frm ∈ v.right := by
    rw [h5]
    rcases chL_cases v.right x.name costs with h | ⟨c, _, h, hm, _⟩
    · rw [h] at h3; exact absurd h3 (by decide)
    · rw [h]; exact hm
  obtain ⟨h, hh, e1, e2, e3⟩ := (g1 r.frm).1 hfr
  obtain ⟨k1, _, k3⟩ := copy_ok hc hh
  refine ⟨v, hv, x, hx, h1, h2, h4, hfr, h6, ?_, by rw [← e2]; exact k3, by rw [h4, ← e1]; exact k1⟩
  rw [h4, ← e1, ← e3, heldL_mem hs hh, e2]
end
end Go.Proofs.YtdklocgaimejgaaDoor
