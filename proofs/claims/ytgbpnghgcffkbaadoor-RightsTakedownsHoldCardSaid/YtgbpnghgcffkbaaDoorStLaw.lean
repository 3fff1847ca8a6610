/-
  How requests stand at moments, and what they close: plain facts.
-/
import Derived.Test.YtgbpnghgcffkbaaDoorStAll
namespace Go.Proofs.YtgbpnghgcffkbaaDoor
open Go.RowKit
set_option linter.unusedVariables false
set_option linter.unusedSimpArgs false

theorem ilt_or (a b : Int) : a < b ∨ b ≤ a := by omega
theorem folF_head {l : List App} {k : Nat} (h : folF l k = 0) : headF l k = 0 := by
  unfold folF at h
  by_cases h2 : headF l k = 0
  · exact h2
  · rw [if_pos h2] at h; exact h
theorem folF_stp {l : List App} {k : Nat} (h : folF l k = 0) : (stepR (rsAt l k) (l.getD k default)).1 = 0 := by
  have h2 := folF_head h
  rw [folF, if_neg (by rw [h2]; decide)] at h
  exact h
theorem at_next {l : List App} {k : Nat} (h : folF l (k + 1) = 0) : (l.getD k default).at_ ≤ (l.getD (k + 1) default).at_ := by
  have h2 := folF_head h
  unfold headF at h2
  split at h2
  · rename_i h3; exact absurd h2 h3
  · split at h2
    · cases h2
    · rename_i h3
      rcases ilt_or (l.getD (k + 1) default).at_ (l.getD k default).at_ with e | e
      · exact absurd ⟨by omega, e⟩ h3
      · exact e
theorem at_mono {l : List App} {n i : Nat} (h : ∀ m, m < n → folF l m = 0) : ∀ j, i ≤ j → j < n → (l.getD i default).at_ ≤ (l.getD j default).at_
  | 0, hij, _ => by obtain rfl : i = 0 := by omega
                    exact Int.le_refl _
  | j + 1, hij, hj => by
    rcases Nat.lt_or_ge i (j + 1) with e | e
    · exact Int.le_trans (at_mono h j (by omega) (by omega)) (at_next (h (j + 1) hj))
    · obtain rfl : i = j + 1 := by omega
      exact Int.le_refl _
theorem nowAt_low {l : List App} {at_ : Int} {n : Nat} (h1 : ∀ j, j < n → (l.getD j default).at_ ≤ at_) : ∀ k, k ≤ n → nowAt l at_ k = rsAt l k
  | 0, _ => rfl
  | k + 1, hk => by rw [nowAt, if_pos (h1 k (by omega))]
theorem nowAt_eq {l : List App} {at_ : Int} {n : Nat} (h : ∀ m, m < l.length → folF l m = 0) (hn : n ≤ l.length) (h1 : ∀ j, j < n → (l.getD j default).at_ ≤ at_) (h2 : n < l.length → at_ < (l.getD n default).at_) : nowAt l at_ l.length = rsAt l n := by
  have key : ∀ k, n + k ≤ l.length → nowAt l at_ (n + k) = rsAt l n := by
    intro k
    induction k with
    | zero => intro _; exact nowAt_low h1 n (Nat.le_refl _)
    | succ k ih =>
      intro hk
      have hlt := h2 (by omega)
      have hm := at_mono h (n + k) (i := n) (by omega) (by omega)
      show nowAt l at_ ((n + k) + 1) = _
      rw [nowAt, if_neg (by omega)]
      exact ih (by omega)
  have := key (l.length - n) (by omega)
  rwa [show n + (l.length - n) = l.length by omega] at this
theorem takeR_end {r r' : Req} {x : App} (h : takeR r x = some r') : r' = r ∨ (r'.end_ = r.end_ ∧ r'.state = 4) ∨ r'.end_ = x.at_ := by
  unfold takeR at h
  split at h
  · split at h
    · cases h; exact .inr (.inl ⟨rfl, rfl⟩)
    · cases h
  · split at h
    · split at h
      · cases h; exact .inr (.inr rfl)
      · cases h
    · split at h
      · split at h
        · cases h; exact .inr (.inr rfl)
        · cases h
      · cases h; exact .inl rfl
/-- What one more event does to a request that is there. -/
def Kept (r r' : Req) (x : App) : Prop := r'.ask = r.ask ∧ (r' = r ∨ (r'.end_ = r.end_ ∧ r'.state = 4) ∨ r'.end_ = x.at_)
theorem stepR_keep (rs : List Req) (x : App) : rs.length ≤ (stepR rs x).2.length ∧ ∀ i, i < rs.length → Kept (rs.getD i default) ((stepR rs x).2.getD i default) x := by
  have same : ∀ r : Req, Kept r r x := fun r => ⟨rfl, .inl rfl⟩
  unfold stepR
  cases hq : reqIx rs x.id with
  | none =>
    dsimp only
    split
    · refine ⟨by simp, fun i hi => ?_⟩
      rw [show (rs ++ [newR x]).getD i default = rs.getD i default by simp [List.getD_eq_getElem?_getD, List.getElem?_append_left hi]]
      exact same _
    · exact ⟨Nat.le_refl _, fun i _ => same _⟩
  | some j =>
    dsimp only
    split
    · exact ⟨Nat.le_refl _, fun i _ => same _⟩
    · cases ht : takeR (rs.getD j default) x with
      | none => exact ⟨Nat.le_refl _, fun i _ => same _⟩
      | some r' =>
        refine ⟨by simp, fun i hi => ?_⟩
        show Kept _ ((rs.set j r').getD i default) x
        by_cases e : j = i
        · subst e
          rw [show (rs.set j r').getD j default = r' by simp [List.getD_eq_getElem?_getD, hi]]
          exact ⟨takeR_ask ht, takeR_end ht⟩
        · rw [show (rs.set j r').getD i default = rs.getD i default by simp [List.getD_eq_getElem?_getD, List.getElem?_set, e]]
          exact same _
theorem stepR_new {rs : List Req} {x : App} {i : Nat} (h1 : rs.length ≤ i) (h2 : i < (stepR rs x).2.length) : (stepR rs x).2.getD i default = newR x ∧ x.kind = 1 ∧ i = rs.length := by
  unfold stepR at h2 ⊢
  cases hq : reqIx rs x.id with
  | none =>
    rw [hq] at h2
    dsimp only at h2 ⊢
    split at h2
    · rename_i hk
      have hl : (rs ++ [newR x]).length = rs.length + 1 := by simp
      have e : i = rs.length := by
        have h3 : i < (rs ++ [newR x]).length := h2
        omega
      subst e
      rw [if_pos hk]
      exact ⟨by simp [List.getD_eq_getElem?_getD], hk, rfl⟩
    · have h3 : i < rs.length := h2
      omega
  | some j =>
    rw [hq] at h2
    dsimp only at h2 ⊢
    exfalso
    split at h2
    · have h3 : i < rs.length := h2
      omega
    · cases ht : takeR (rs.getD j default) x with
      | none =>
        rw [ht] at h2
        have h3 : i < rs.length := h2
        omega
      | some r' =>
        rw [ht] at h2
        have h3 : i < (rs.set j r').length := h2
        simp at h3
        omega
theorem stepR_len {rs : List Req} {x : App} (h : (stepR rs x).1 = 0) : (stepR rs x).2.length = if x.kind = 1 then rs.length + 1 else rs.length := by
  unfold stepR at h ⊢
  cases hq : reqIx rs x.id with
  | none =>
    rw [hq] at h
    dsimp only at h ⊢
    split
    · rename_i hk; simp
    · rfl
  | some j =>
    rw [hq] at h
    dsimp only at h ⊢
    split
    · rename_i hk; rw [if_pos hk] at h; cases h
    · cases ht : takeR (rs.getD j default) x with
      | none => rfl
      | some r' => simp
theorem rs_keep {l : List App} {k i : Nat} : ∀ m, k ≤ m → i < (rsAt l k).length → i < (rsAt l m).length ∧ ((rsAt l m).getD i default).ask = ((rsAt l k).getD i default).ask ∧ (((rsAt l m).getD i default).end_ = ((rsAt l k).getD i default).end_ ∨ ∃ j, k ≤ j ∧ j < m ∧ ((rsAt l m).getD i default).end_ = (l.getD j default).at_)
  | 0, hkm, hi => by
    obtain rfl : k = 0 := by omega
    exact ⟨hi, rfl, .inl rfl⟩
  | m + 1, hkm, hi => by
    rcases Nat.lt_or_ge k (m + 1) with e | e
    · obtain ⟨h1, h2, h3⟩ := rs_keep m (by omega) hi
      obtain ⟨g1, g2⟩ := stepR_keep (rsAt l m) (l.getD m default)
      obtain ⟨g3, g4⟩ := g2 i h1
      refine ⟨Nat.lt_of_lt_of_le h1 g1, g3.trans h2, ?_⟩
      show ((stepR (rsAt l m) (l.getD m default)).2.getD i default).end_ = _ ∨ _
      rcases g4 with g4 | ⟨g4, _⟩ | g4
      · rw [g4]
        rcases h3 with h3 | ⟨j, a, b, h3⟩
        · exact .inl h3
        · exact .inr ⟨j, a, by omega, by rw [rsAt, g4]; exact h3⟩
      · rcases h3 with h3 | ⟨j, a, b, h3⟩
        · exact .inl (g4.trans h3)
        · exact .inr ⟨j, a, by omega, g4.trans h3⟩
      · exact .inr ⟨m, by omega, by omega, g4⟩
    · obtain rfl : k = m + 1 := by omega
      exact ⟨hi, rfl, .inl rfl⟩
theorem rs_from {l : List App} : ∀ k i, i < (rsAt l k).length → ∃ j, j < k ∧ ((rsAt l k).getD i default).ask = l.getD j default ∧ (l.getD j default).kind = 1
  | 0, i, hi => absurd hi (by simp [rsAt])
  | k + 1, i, hi => by
    rcases Nat.lt_or_ge i (rsAt l k).length with e | e
    · obtain ⟨j, h1, h2, h3⟩ := rs_from k i e
      have := ((stepR_keep (rsAt l k) (l.getD k default)).2 i e).1
      exact ⟨j, by omega, this.trans h2, h3⟩
    · obtain ⟨h1, h2, _⟩ := stepR_new (x := l.getD k default) e hi
      exact ⟨k, by omega, by show ((stepR (rsAt l k) (l.getD k default)).2.getD i default).ask = _; rw [h1]; rfl, h2⟩
theorem rs_made {l : List App} {j : Nat} (h : folF l j = 0) (hk : (l.getD j default).kind = 1) : (rsAt l j).length < (rsAt l (j + 1)).length ∧ ((rsAt l (j + 1)).getD (rsAt l j).length default).ask = l.getD j default := by
  have hl := stepR_len (folF_stp h)
  rw [if_pos hk] at hl
  have hl2 : (rsAt l (j + 1)).length = (rsAt l j).length + 1 := hl
  have := stepR_new (rs := rsAt l j) (x := l.getD j default) (i := (rsAt l j).length) (Nat.le_refl _) (by rw [hl]; omega)
  exact ⟨by omega, by show ((stepR (rsAt l j) (l.getD j default)).2.getD _ default).ask = _; rw [this.1]; rfl⟩
theorem rs_ends {l : List App} : ∀ k i, i < (rsAt l k).length → (((rsAt l k).getD i default).state = 2 ∨ ((rsAt l k).getD i default).state = 4) ∧ ((rsAt l k).getD i default).end_ = -1 ∨ ∃ j, j < k ∧ ((rsAt l k).getD i default).end_ = (l.getD j default).at_
  | 0, i, hi => absurd hi (by simp [rsAt])
  | k + 1, i, hi => by
    show ((((stepR (rsAt l k) (l.getD k default)).2.getD i default).state = 2 ∨ ((stepR (rsAt l k) (l.getD k default)).2.getD i default).state = 4) ∧ ((stepR (rsAt l k) (l.getD k default)).2.getD i default).end_ = -1) ∨ ∃ j, j < k + 1 ∧ ((stepR (rsAt l k) (l.getD k default)).2.getD i default).end_ = (l.getD j default).at_
    rcases Nat.lt_or_ge i (rsAt l k).length with e | e
    · have ih := rs_ends k i e
      rcases ((stepR_keep (rsAt l k) (l.getD k default)).2 i e).2 with h | ⟨h, h0⟩ | h
      · rw [h]
        rcases ih with ih | ⟨j, a, b⟩
        · exact .inl ih
        · exact .inr ⟨j, by omega, b⟩
      · rw [h]
        rcases ih with ih | ⟨j, a, b⟩
        · exact .inl ⟨.inr h0, ih.2⟩
        · exact .inr ⟨j, by omega, b⟩
      · exact .inr ⟨k, by omega, h⟩
    · rw [(stepR_new (x := l.getD k default) e hi).1]
      exact .inl ⟨.inl rfl, rfl⟩
theorem rs_rel {l : List App} {k i : Nat} (h : ∀ j, j < k → folF l j = 0) (hi : i < (rsAt l k).length) : (stpAt l ((rsAt l k).getD i default).ask.id k).2 = true ∧ RelR ((rsAt l k).getD i default) (stpAt l ((rsAt l k).getD i default).ask.id k).1 := by
  rw [getD_at _ _ hi]
  have hx := reqIx_at (rsAt_dist l k) hi
  rcases both_all k h (rsAt l k)[i].ask.id with ⟨h1, _⟩ | ⟨j, hj, h1, h2, h3⟩
  · rw [h1] at hx; cases hx
  · rw [h1] at hx
    injection hx with hx
    subst hx
    exact ⟨h2, h3⟩
theorem fol_ok {l : List App} (h : appsFault l = 0) : ∀ j, j < l.length → folF l j = 0 := (apps_all h).2
theorem at_in {l : List App} (h : appsFault l = 0) {j : Nat} (hj : j < l.length) : 0 ≤ (l.getD j default).at_ ∧ (l.getD j default).at_ ≤ 253402300799 := appF_at (folF_app (fol_ok h j hj))
/-! ### As the reference tells it -/
def hVal (s : Stp × Bool) (hold at_ : Int) : Int := if s.2 = false then 1 else if s.1.ended = 3 then 5 else if s.1.ended = 4 then 6 else if s.1.granted = true then 4 else if at_ < s.1.ask.at_ + hold then 2 else 3
theorem st_same {l : List App} {n : Nat} {id : List UInt8} {hold at_ : Int} (h : ∀ j, j < n → folF l j = 0) : stVal (rsAt l n) id hold at_ = hVal (stpAt l id n) hold at_ := by
  unfold stVal hVal
  rcases both_all n h id with ⟨h1, h2, _⟩ | ⟨i, hi, h1, h2, h3⟩
  · rw [h1, h2]; rfl
  · rw [h1, h2]
    dsimp only
    rw [getD_at _ _ hi, if_neg (by decide)]
    obtain ⟨ra, rg, rs⟩ := h3
    generalize (rsAt l n)[i] = r at *
    generalize (stpAt l id n).1 = s at *
    unfold stOne
    rw [← ra]
    rcases rs with ⟨p1, p2, p3, p4⟩ | ⟨p1, p2, p3, p4⟩ | ⟨p1, p2, p3, p4⟩ | ⟨p1, p3, p4⟩
    · rw [p1, p2, p3]
      by_cases e : r.ask.at_ + hold ≤ at_
      · rw [if_pos ⟨rfl, e⟩, if_neg (by decide), if_neg (by decide), if_neg (by decide), if_neg (by omega)]
      · rw [if_neg (fun x => e x.2), if_neg (by decide), if_neg (by decide), if_neg (by decide), if_pos (by omega)]
    · rw [p1, p2, p3, if_neg (fun x => by cases x.1), if_neg (by decide), if_neg (by decide), if_pos rfl]
    · rw [p1, p3, if_neg (fun x => by cases x.1), if_pos rfl]
    · rw [p1, p3, if_neg (fun x => by cases x.1), if_neg (by decide), if_pos rfl]
theorem stp_found {l : List App} {id : List UInt8} {k : Nat} : ∀ m, k ≤ m → (stpAt l id k).2 = true → (stpAt l id m).2 = true
  | 0, hk, h => by obtain rfl : k = 0 := by omega
                   exact h
  | m + 1, hk, h => by
    rcases Nat.lt_or_ge k (m + 1) with e | e
    · have ih := stp_found m (by omega) h
      rw [stpAt, stpOne]
      repeat' split
      all_goals first | exact ih | rfl
    · obtain rfl : k = m + 1 := by omega
      exact h
theorem stp_has {l : List App} {id : List UInt8} : ∀ k, (stpAt l id k).2 = true → ∃ j, j < k ∧ (l.getD j default).id = id
  | 0, h => by cases h
  | k + 1, h => by
    by_cases e : (l.getD k default).id = id
    · exact ⟨k, by omega, e⟩
    · rw [stp_other e] at h
      obtain ⟨j, hj, h2⟩ := stp_has k h
      exact ⟨j, by omega, h2⟩
theorem stepF_ok {l : List App} {k : Nat} (h : ∀ j, j ≤ k → folF l j = 0) : stepF l k = 0 := by
  have h1 := fol_same (l := l) (k := k) (fun j hj => h j (by omega))
  rw [h k (Nat.le_refl _)] at h1
  rw [folH, if_neg (by rw [folF_head (h k (Nat.le_refl _))]; decide)] at h1
  exact h1.symm
theorem has_same {l : List App} {id : List UInt8} (h : ∀ j, j < l.length → folF l j = 0) : hasId l id = (stpAt l id l.length).2 := by
  cases hs : (stpAt l id l.length).2 with
  | true =>
    obtain ⟨j, hj, h2⟩ := stp_has _ hs
    unfold hasId
    rw [List.any_eq_true]
    exact ⟨l[j], List.getElem_mem hj, by rw [getD_at _ _ hj] at h2; exact decide_eq_true h2⟩
  | false =>
    cases hq : hasId l id with
    | false => rfl
    | true =>
      exfalso
      unfold hasId at hq
      rw [List.any_eq_true] at hq
      obtain ⟨x, hx, hid⟩ := hq
      have hid := of_decide_eq_true hid
      obtain ⟨j, hj, rfl⟩ := List.mem_iff_getElem.1 hx
      have h0 := stepF_ok (l := l) (k := j) (fun i hi => h i (by omega))
      have hg := getD_at l default hj
      have hf : (stpAt l id (j + 1)).2 = true := by
        by_cases hk : (l.getD j default).kind = 1
        · rw [stpAt, stpOne, if_neg (by rw [hg]; exact fun e => e hid), if_pos hk]
        · unfold stepF at h0
          rw [if_neg (fun e => hk e.1)] at h0
          by_cases h2 : (stpAt l (l.getD j default).id j).2 = false
          · rw [if_pos ⟨hk, h2⟩] at h0; cases h0
          · rw [hg, hid] at h2
            exact stp_found (k := j) (j + 1) (by omega) (by simpa using h2)
      rw [stp_found l.length (by omega) hf] at hs
      cases hs
/-- The rights that the reference makes. -/
def hTdOne (l : List App) (hold : Int) (a : App) : List Rgt := if a.kind = 1 ∧ a.at_ < endV (stpAt l a.id l.length).1 hold then [⟨a.id, a.pre, 0, 253402300800, a.at_, endV (stpAt l a.id l.length).1 hold, a.at_, 4, []⟩] else []
def hTdAt (l : List App) (hold : Int) : Nat → List Rgt
  | 0 => []
  | k + 1 => hTdAt l hold k ++ hTdOne l hold (l.getD k default)
theorem hTdAt_len (l : List App) (hold : Int) : ∀ k, (hTdAt l hold k).length ≤ k
  | 0 => by simp [hTdAt]
  | k + 1 => by
    rw [hTdAt, List.length_append]
    have := hTdAt_len l hold k
    have : (hTdOne l hold (l.getD k default)).length ≤ 1 := by unfold hTdOne; split <;> simp
    omega
theorem end_same {r : Req} {s : Stp} {hold : Int} (h : RelR r s) (he : (r.state = 2 ∨ r.state = 4) ∧ r.end_ = -1 ∨ (0 ≤ r.end_ ∧ r.end_ ≤ 253402300799)) : tdEnd r hold = endV s hold := by
  obtain ⟨ra, rg, rs⟩ := h
  have key : tdEnd0 r = endE s ∧ tdEnd0 r ≤ 253402300800 := by
    unfold tdEnd0 endE
    rcases rs with ⟨p1, p2, p3, p4⟩ | ⟨p1, p2, p3, p4⟩ | ⟨p1, p2, p3, p4⟩ | ⟨p1, p3, p4⟩
    · rw [p4, p1]; exact ⟨rfl, by decide⟩
    · rw [p4, p1]; exact ⟨rfl, by decide⟩
    · have hr : 0 ≤ r.end_ ∧ r.end_ ≤ 253402300799 := by
        rcases he with ⟨e, _⟩ | e
        · rw [p3] at e; rcases e with e | e <;> cases e
        · exact e
      rw [p1, if_pos hr.1, if_pos (by decide)]; exact ⟨p4, by omega⟩
    · have hr : 0 ≤ r.end_ ∧ r.end_ ≤ 253402300799 := by
        rcases he with ⟨e, _⟩ | e
        · rw [p3] at e; rcases e with e | e <;> cases e
        · exact e
      rw [p1, if_pos hr.1, if_pos (by decide)]; exact ⟨p4, by omega⟩
  unfold tdEnd endV
  rw [← ra, ← rg, ← key.1]
  have := key.2
  split <;> omega
theorem folV_max {l : List App} (h : appsFault l = 0) : folV l 253402300799 = rsAt l l.length := by
  rw [folV, if_pos h]
  exact nowAt_eq (fol_ok h) (Nat.le_refl _) (fun j hj => (at_in h hj).2) (fun e => absurd e (by omega))
theorem td_same {l : List App} {hold : Int} (h : appsFault l = 0) : tdAll l hold = hTdAt l hold l.length := by
  unfold tdAll
  rw [folV_max h]
  have key : ∀ k, k ≤ l.length → tdAt (rsAt l l.length) hold (rsAt l k).length = hTdAt l hold k := by
    intro k
    induction k with
    | zero => intro _; rfl
    | succ k ih =>
      intro hk
      have ih := ih (by omega)
      have hf := fol_ok h k (by omega)
      have hl := stepR_len (folF_stp hf)
      have hl2 : (rsAt l (k + 1)).length = if (l.getD k default).kind = 1 then (rsAt l k).length + 1 else (rsAt l k).length := hl
      rw [hTdAt, hl2]
      by_cases hk1 : (l.getD k default).kind = 1
      · rw [if_pos hk1, tdAt, ih]
        congr 1
        obtain ⟨m1, m2⟩ := rs_made hf hk1
        obtain ⟨m3, m4, _⟩ := rs_keep (l := l) l.length (show k + 1 ≤ l.length by omega) m1
        obtain ⟨_, hr⟩ := rs_rel (fol_ok h) m3
        have he := rs_ends l.length _ m3
        rw [m2] at m4
        rw [m4] at hr
        generalize (rsAt l l.length).getD (rsAt l k).length default = r at *
        have hE := end_same (hold := hold) hr (by
          rcases he with e | ⟨j, hj, e⟩
          · exact .inl e
          · rw [e]; exact .inr (at_in h hj))
        unfold tdOne hTdOne tdRgt
        rw [hE, m4]
        by_cases hc : endV (stpAt l (l.getD k default).id l.length).1 hold ≤ (l.getD k default).at_
        · rw [if_pos hc, if_neg (fun e => by omega)]
        · rw [if_neg hc, if_pos ⟨hk1, by omega⟩]
      · rw [if_neg hk1, ih, hTdOne, if_neg (fun e => hk1 e.1), List.append_nil]
  exact key _ (Nat.le_refl _)
/-! ### What takedowns close -/
def closedB (rs : List Rgt) (id : List UInt8) (at_ : Int) : Bool := rs.any fun r => decide (r.id = id ∧ r.st ≤ at_ ∧ at_ < r.en)
theorem tdAt_mem {rs : List Req} {hold : Int} {x : Rgt} : ∀ k, k ≤ rs.length → (x ∈ tdAt rs hold k ↔ ∃ i, i < k ∧ x ∈ tdOne (rs.getD i default) hold)
  | 0, _ => ⟨fun h => (by cases h), fun ⟨i, h, _⟩ => absurd h (by omega)⟩
  | k + 1, hk => by
    rw [tdAt, List.mem_append, tdAt_mem k (by omega)]
    constructor
    · rintro (⟨i, h1, h2⟩ | h)
      · exact ⟨i, by omega, h2⟩
      · exact ⟨k, by omega, h⟩
    · rintro ⟨i, h1, h2⟩
      rcases Nat.lt_or_ge i k with e | e
      · exact .inl ⟨i, e, h2⟩
      · obtain rfl : i = k := by omega
        exact .inr h2
theorem tdOne_mem {r : Req} {hold : Int} {x : Rgt} : x ∈ tdOne r hold ↔ r.ask.at_ < tdEnd r hold ∧ x = tdRgt r hold := by
  unfold tdOne
  split
  · exact ⟨fun h => (by cases h), fun h => absurd h.1 (by omega)⟩
  · rename_i h
    rw [List.mem_singleton]
    exact ⟨fun e => ⟨by omega, e⟩, fun e => e.2⟩
theorem closed_iff {rs : List Req} {hold at_ : Int} {id : List UInt8} : closedB (tdAt rs hold rs.length) id at_ = true ↔ ∃ i, i < rs.length ∧ (rs.getD i default).ask.id = id ∧ (rs.getD i default).ask.at_ ≤ at_ ∧ at_ < tdEnd (rs.getD i default) hold := by
  unfold closedB
  rw [List.any_eq_true]
  constructor
  · rintro ⟨x, hx, hd⟩
    have hd := of_decide_eq_true hd
    obtain ⟨i, hi, hm⟩ := (tdAt_mem _ (Nat.le_refl _)).1 hx
    obtain ⟨_, rfl⟩ := tdOne_mem.1 hm
    exact ⟨i, hi, hd⟩
  · rintro ⟨i, hi, h1, h2, h3⟩
    refine ⟨tdRgt (rs.getD i default) hold, (tdAt_mem _ (Nat.le_refl _)).2 ⟨i, hi, tdOne_mem.2 ⟨by omega, rfl⟩⟩, ?_⟩
    exact decide_eq_true ⟨h1, h2, h3⟩
/-- Up to which event a moment looks. -/
theorem cut_at (l : List App) (at_ : Int) : ∃ n, n ≤ l.length ∧ (∀ j, j < n → (l.getD j default).at_ ≤ at_) ∧ (n < l.length → at_ < (l.getD n default).at_) := by
  have key : ∀ k, k ≤ l.length → ∃ n, n ≤ k ∧ (∀ j, j < n → (l.getD j default).at_ ≤ at_) ∧ (n < k → at_ < (l.getD n default).at_) := by
    intro k
    induction k with
    | zero => intro _; exact ⟨0, Nat.le_refl _, fun j hj => absurd hj (by omega), fun h => absurd h (by omega)⟩
    | succ k ih =>
      intro hk
      obtain ⟨n, h1, h2, h3⟩ := ih (by omega)
      rcases Nat.lt_or_ge n k with e | e
      · exact ⟨n, by omega, h2, fun _ => h3 e⟩
      · obtain rfl : n = k := by omega
        rcases ilt_or at_ (l.getD n default).at_ with e2 | e2
        · exact ⟨n, by omega, h2, fun _ => e2⟩
        · refine ⟨n + 1, Nat.le_refl _, fun j hj => ?_, fun h => absurd h (by omega)⟩
          rcases Nat.lt_or_ge j n with e3 | e3
          · exact h2 j e3
          · obtain rfl : j = n := by omega
            exact e2
  exact key _ (Nat.le_refl _)
theorem stVal_one {rs : List Req} {id : List UInt8} {hold at_ : Int} (hs : ∀ i, i < rs.length → (rs.getD i default).state ≠ 1) : stVal rs id hold at_ ≠ 1 ↔ ∃ i, i < rs.length ∧ (rs.getD i default).ask.id = id := by
  rcases reqIx_spec rs id with ⟨i, hi, h1, h2, _⟩ | ⟨h1, h2⟩
  · refine ⟨fun _ => ⟨i, hi, by rw [getD_at _ _ hi]; exact h2⟩, fun _ => ?_⟩
    unfold stVal
    rw [h1]
    show stOne (rs.getD i default) hold at_ ≠ 1
    unfold stOne
    split
    · decide
    · exact hs i hi
  · refine ⟨fun h => absurd (by unfold stVal; rw [h1]) h, fun ⟨i, hi, h⟩ => ?_⟩
    rw [getD_at _ _ hi] at h
    exact absurd h (h2 i hi)
theorem stVal_at {rs : List Req} {id : List UInt8} {hold at_ v : Int} (hv : stVal rs id hold at_ = v) (h1 : v ≠ 1) : ∃ i, i < rs.length ∧ (rs.getD i default).ask.id = id ∧ stOne (rs.getD i default) hold at_ = v := by
  rcases reqIx_spec rs id with ⟨i, hi, e1, e2, _⟩ | ⟨e1, e2⟩
  · unfold stVal at hv
    rw [e1] at hv
    exact ⟨i, hi, by rw [getD_at _ _ hi]; exact e2, hv⟩
  · unfold stVal at hv
    rw [e1] at hv
    exact absurd hv.symm h1
theorem rs_state {l : List App} {k i : Nat} (h : ∀ j, j < k → folF l j = 0) (hi : i < (rsAt l k).length) : ((rsAt l k).getD i default).state ≠ 1 ∧ (((rsAt l k).getD i default).state = 4 → ((rsAt l k).getD i default).grant = true ∧ ((rsAt l k).getD i default).end_ = -1) ∧ (((rsAt l k).getD i default).state = 2 → ((rsAt l k).getD i default).end_ = -1) ∧ ((rsAt l k).getD i default).state ≠ 3 := by
  obtain ⟨_, ra, rg, rs⟩ := rs_rel h hi
  generalize (rsAt l k).getD i default = r at *
  rcases rs with ⟨p1, p2, p3, p4⟩ | ⟨p1, p2, p3, p4⟩ | ⟨p1, p2, p3, p4⟩ | ⟨p1, p3, p4⟩
  · rw [p3]; exact ⟨by decide, fun e => (by cases e), fun _ => p4, by decide⟩
  · rw [p3]; exact ⟨by decide, fun e => ⟨by rw [rg, p2], p4⟩, fun e => (by cases e), by decide⟩
  · rw [p3]; exact ⟨by decide, fun e => (by cases e), fun e => (by cases e), by decide⟩
  · rw [p3]; exact ⟨by decide, fun e => (by cases e), fun e => (by cases e), by decide⟩
theorem dist_getD {rs : List Req} (hd : DistR rs) {i j : Nat} (hi : i < rs.length) (hj : j < rs.length) (h : (rs.getD i default).ask.id = (rs.getD j default).ask.id) : i = j := by
  rw [getD_at _ _ hi, getD_at _ _ hj] at h
  exact hd i j hi hj h
theorem closed_law {l : List App} {id : List UInt8} {hold at_ : Int} (h : appsFault l = 0) (hh : 0 ≤ hold) (ha : 0 ≤ at_ ∧ at_ ≤ 253402300799) :
    (stVal (folV l 253402300799) id hold 253402300799 = 4 → (closedB (tdAll l hold) id at_ = true ↔ stVal (folV l at_) id hold at_ ≠ 1)) ∧
    (stVal (folV l at_) id hold at_ = 2 → closedB (tdAll l hold) id at_ = true) := by
  have hok := fol_ok h
  obtain ⟨n, hn, c1, c2⟩ := cut_at l at_
  have hnow : folV l at_ = rsAt l n := by
    rw [folV, if_pos h]
    exact nowAt_eq hok hn c1 c2
  have hokn : ∀ j, j < n → folF l j = 0 := fun j hj => hok j (by omega)
  unfold tdAll
  rw [hnow, folV_max h]
  constructor
  · intro h4
    obtain ⟨i, hi, hid, hst⟩ := stVal_at h4 (by decide)
    have hs4 : ((rsAt l l.length).getD i default).state = 4 := by
      unfold stOne at hst
      split at hst
      · cases hst
      · exact hst
    obtain ⟨hg, he⟩ := (rs_state hok hi).2.1 hs4
    have hend : tdEnd ((rsAt l l.length).getD i default) hold = 253402300800 := by
      unfold tdEnd tdEnd0
      rw [hg, he]; rfl
    rw [closed_iff, stVal_one (fun j hj => (rs_state hokn hj).1)]
    constructor
    · rintro ⟨k, hk, k1, k2, _⟩
      obtain ⟨j, hj, j1, j2⟩ := rs_from l.length k hk
      rw [j1] at k1 k2
      have hjn : j < n := by
        rcases Nat.lt_or_ge j n with e | e
        · exact e
        · have := at_mono hok j (i := n) e hj
          have := c2 (by omega)
          omega
      obtain ⟨m1, m2⟩ := rs_made (hok j hj) j2
      obtain ⟨m3, m4, _⟩ := rs_keep (l := l) n (show j + 1 ≤ n by omega) m1
      exact ⟨_, m3, by rw [m4, m2]; exact k1⟩
    · rintro ⟨k, hk, k1⟩
      obtain ⟨m3, m4, _⟩ := rs_keep (l := l) l.length hn hk
      obtain ⟨j, hj, j1, j2⟩ := rs_from n k hk
      have e : k = i := dist_getD (rsAt_dist l l.length) m3 hi (by rw [m4, k1, hid])
      subst e
      exact ⟨k, hi, hid, by rw [m4, j1]; exact c1 j hj, by rw [hend]; omega⟩
  · intro h2
    obtain ⟨i, hi, hid, hst⟩ := stVal_at h2 (by decide)
    have hs2 : ((rsAt l n).getD i default).state = 2 ∧ at_ < ((rsAt l n).getD i default).ask.at_ + hold := by
      unfold stOne at hst
      split at hst
      · cases hst
      · rename_i e
        refine ⟨hst, ?_⟩
        rcases ilt_or at_ (((rsAt l n).getD i default).ask.at_ + hold) with e2 | e2
        · exact e2
        · exact absurd ⟨hst, e2⟩ e
    obtain ⟨m1, m2, m3⟩ := rs_keep (l := l) l.length hn hi
    obtain ⟨j, hj, j1, j2⟩ := rs_from n i hi
    have hen := (rs_state hokn hi).2.2.1 hs2.1
    rw [closed_iff]
    refine ⟨i, m1, by rw [m2]; exact hid, by rw [m2, j1]; exact c1 j hj, ?_⟩
    have hlate : at_ < tdEnd0 ((rsAt l l.length).getD i default) := by
      unfold tdEnd0
      split
      · rename_i e
        rcases m3 with m3 | ⟨q, q1, q2, m3⟩
        · rw [m3, hen] at e; omega
        · rw [m3]
          have := at_mono hok q (i := n) q1 q2
          have := c2 (by omega)
          omega
      · omega
    unfold tdEnd
    rw [m2]
    split <;> omega
/-! ### The rights are right -/
theorem tdAt_sub (rs : List Req) (hold : Int) : ∀ k, k ≤ rs.length → List.Sublist ((tdAt rs hold k).map (·.id)) ((rs.take k).map (·.ask.id))
  | 0, _ => by simp [tdAt]
  | k + 1, hk => by
    rw [tdAt, List.map_append, List.take_succ_eq_append_getElem (by omega), List.map_append]
    refine List.Sublist.append (tdAt_sub rs hold k (by omega)) ?_
    unfold tdOne
    rw [getD_at _ _ (show k < rs.length by omega)]
    split
    · simp
    · simp [tdRgt]
theorem nodup_take {α : Type} {xs : List α} (h : xs.Nodup) {i : Nat} (hi : i < xs.length) : xs[i] ∉ xs.take i := by
  intro hm
  obtain ⟨j, hj, e⟩ := List.mem_iff_getElem.1 hm
  rw [List.getElem_take] at e
  have hj2 : j < i := by
    have := hj
    rw [List.length_take] at this
    omega
  exact (List.pairwise_iff_getElem.1 h j i (by omega) hi hj2) e
theorem dist_nodup {rs : List Req} (hd : DistR rs) : (rs.map (·.ask.id)).Nodup := by
  rw [List.Nodup, List.pairwise_iff_getElem]
  intro i j hi hj hij e
  rw [List.getElem_map, List.getElem_map] at e
  have := hd i j (by simpa using hi) (by simpa using hj) e
  omega
theorem appF_parts {x : App} (h : appF x = 0) : isNm x.id = true ∧ isPre x.pre = true := by
  unfold appF at h
  split at h
  · cases h
  · split at h
    · cases h
    · split at h
      · cases h
      · split at h
        · cases h
        · rename_i h2 h3 h4
          refine ⟨by simpa using h2, ?_⟩
          cases q : isPre x.pre with
          | true => rfl
          | false => exact absurd (.inl q) h4
theorem td_good {l : List App} {hold : Int} (h : appsFault l = 0) (hh : 0 ≤ hold) (hlen : ¬ 300 < (tdAll l hold).length) : rgsFault [] (tdAll l hold) = 0 := by
  refine rgs_3 hlen (fun i hi => ?_)
  have hnd : ((tdAll l hold).map (·.id)).Nodup := by
    unfold tdAll
    rw [folV_max h]
    have hs := tdAt_sub (rsAt l l.length) hold _ (Nat.le_refl _)
    rw [List.take_length] at hs
    exact hs.nodup (dist_nodup (rsAt_dist l l.length))
  have hmem : (tdAll l hold)[i] ∈ tdAll l hold := List.getElem_mem hi
  have hno : (tdAll l hold)[i].id ∉ ((tdAll l hold).take i).map (·.id) := by
    have := nodup_take hnd (i := i) (by simpa using hi)
    rw [List.getElem_map, ← List.map_take] at this
    exact this
  unfold rgsF
  rw [getD_at _ _ hi]
  have hform : ∃ r, r ∈ folV l 253402300799 ∧ (tdAll l hold)[i] = tdRgt r hold ∧ r.ask.at_ < tdEnd r hold := by
    unfold tdAll at hmem
    obtain ⟨k, hk, hm⟩ := (tdAt_mem _ (Nat.le_refl _)).1 hmem
    obtain ⟨h1, h2⟩ := tdOne_mem.1 hm
    rw [getD_at _ _ hk] at h1 h2
    exact ⟨_, List.getElem_mem hk, h2, h1⟩
  obtain ⟨r, hr, he, hlt⟩ := hform
  rw [he] at hno ⊢
  have hask : isNm r.ask.id = true ∧ isPre r.ask.pre = true ∧ 0 ≤ r.ask.at_ ∧ r.ask.at_ ≤ 253402300799 := by
    rw [folV, if_pos h] at hr
    exact nowAt_ask (P := fun x => isNm x.id = true ∧ isPre x.pre = true ∧ 0 ≤ x.at_ ∧ x.at_ ≤ 253402300799) _ (fun j hj => by
      have h0 := folF_app (fol_ok h j hj)
      exact ⟨(appF_parts h0).1, (appF_parts h0).2, (appF_at h0).1, (appF_at h0).2⟩) r hr
  have hend : tdEnd r hold ≤ 253402300800 := by
    have h0 : tdEnd0 r ≤ 253402300800 := by
      unfold tdEnd0
      rw [folV_max h] at hr
      obtain ⟨q, hq, rfl⟩ := List.mem_iff_getElem.1 hr
      split
      · rename_i e
        rcases rs_ends l.length q hq with ⟨_, e2⟩ | ⟨j, hj, e2⟩
        · rw [getD_at _ _ hq] at e2; omega
        · rw [getD_at _ _ hq] at e2
          have := (at_in h hj).2
          omega
      · omega
    unfold tdEnd
    split <;> omega
  have hf : rgF (tdRgt r hold) = 0 := by
    unfold rgF tdRgt
    dsimp only
    rw [if_neg (by rw [hask.1]; decide), if_neg (by rw [hask.2.1]; decide)]
    unfold rgRest
    dsimp only
    have hrr : rgRange ⟨r.ask.id, r.ask.pre, 0, 253402300800, r.ask.at_, tdEnd r hold, r.ask.at_, 4, []⟩ = true := by
      unfold rgRange withinB
      dsimp only
      simp only [Bool.and_eq_true, decide_eq_true_eq]
      omega
    rw [if_neg (by rw [hrr]; decide), if_neg (by omega), if_neg (by decide), if_neg (by simp), if_neg (by simp)]
  rw [if_neg (by show ¬ isNm r.ask.id = false; rw [hask.1]; decide), if_neg hno, if_neg (by rw [hf]; decide), if_neg (by intro e; exact e.1 rfl)]
end Go.Proofs.YtgbpnghgcffkbaaDoor
