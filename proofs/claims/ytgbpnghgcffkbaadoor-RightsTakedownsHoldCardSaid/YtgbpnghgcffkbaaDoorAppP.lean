/-
  Requests to take something down: what is right of them, how they stand: plain facts.
-/
import Derived.Test.YtgbpnghgcffkbaaDoorRights
namespace Go.Proofs.YtgbpnghgcffkbaaDoor
open Go.RowKit
set_option linter.unusedVariables false
set_option linter.unusedSimpArgs false

structure App where
  id : List UInt8
  kind : Int
  at_ : Int
  pre : List UInt8
deriving Inhabited
/-- A request, as package rights keeps it. -/
structure Req where
  ask : App
  state : Int
  grant : Bool
  end_ : Int
deriving Inhabited
def appF (x : App) : Int := if withinB x.kind 1 4 = false then 4 else if isNm x.id = false then 5 else if withinB x.at_ 0 253402300799 = false then 1 else if isPre x.pre = false ∨ (decide (x.kind = 1) != decide (x.pre ≠ [])) = true then 3 else 0
def idxR : List Req → List UInt8 → Nat → Option Nat
  | [], _, _ => none
  | r :: rs, id, k => if r.ask.id = id then some k else idxR rs id (k + 1)
def reqIx (rs : List Req) (id : List UInt8) : Option Nat := idxR rs id 0
def takeR (r : Req) (x : App) : Option Req :=
  if x.kind = 2 then (if r.state = 2 then some { r with state := 4, grant := true } else none)
  else if x.kind = 3 then (if r.state = 2 then some { r with state := 5, end_ := x.at_ } else none)
  else if x.kind = 4 then (if r.state = 2 ∨ r.state = 4 then some { r with state := 6, end_ := x.at_ } else none)
  else some r
def newR (x : App) : Req := ⟨x, 2, false, -1⟩
def stepR (rs : List Req) (x : App) : Int × List Req :=
  match reqIx rs x.id with
  | none => if x.kind = 1 then (0, rs ++ [newR x]) else (9, rs)
  | some i => if x.kind = 1 then (7, rs) else match takeR (rs.getD i default) x with
    | none => (11, rs)
    | some r => (0, rs.set i r)
def rsAt (l : List App) : Nat → List Req
  | 0 => []
  | k + 1 => (stepR (rsAt l k) (l.getD k default)).2
def headF (l : List App) (k : Nat) : Int := if appF (l.getD k default) ≠ 0 then appF (l.getD k default) else if 0 < k ∧ (l.getD k default).at_ < (l.getD (k - 1) default).at_ then 8 else 0
def folF (l : List App) (k : Nat) : Int := if headF l k ≠ 0 then headF l k else (stepR (rsAt l k) (l.getD k default)).1
def appsFault (l : List App) : Int := if 500 < l.length then 2 else firstF (folF l) l.length
def nowAt (l : List App) (at_ : Int) : Nat → List Req
  | 0 => []
  | k + 1 => if (l.getD k default).at_ ≤ at_ then rsAt l (k + 1) else nowAt l at_ k
/-! ### As the reference keeps it -/
structure Stp where
  ask : App
  granted : Bool
  ended : Int
  end_ : Int
deriving Inhabited
def stpOne (s : Stp × Bool) (x : App) (id : List UInt8) : Stp × Bool :=
  if x.id ≠ id then s else if x.kind = 1 then (⟨x, false, 0, 0⟩, true) else if x.kind = 2 then ({ s.1 with granted := true }, s.2) else ({ s.1 with ended := x.kind, end_ := x.at_ }, s.2)
def stpZero : Stp := ⟨⟨[], 0, 0, []⟩, false, 0, 0⟩
def stpAt (l : List App) (id : List UInt8) : Nat → Stp × Bool
  | 0 => (stpZero, false)
  | k + 1 => stpOne (stpAt l id k) (l.getD k default) id
def stepF (l : List App) (k : Nat) : Int :=
  if (l.getD k default).kind = 1 ∧ (stpAt l (l.getD k default).id k).2 = true then 7
  else if (l.getD k default).kind ≠ 1 ∧ (stpAt l (l.getD k default).id k).2 = false then 9
  else if (l.getD k default).kind ≠ 1 ∧ ((stpAt l (l.getD k default).id k).1.ended ≠ 0 ∨ ((stpAt l (l.getD k default).id k).1.granted = true ∧ (l.getD k default).kind ≠ 4)) then 11 else 0
def folH (l : List App) (k : Nat) : Int := if headF l k ≠ 0 then headF l k else stepF l k
def appsFaultH (l : List App) : Int := if 500 < l.length then 2 else firstF (folH l) l.length
theorem idxR_spec (id : List UInt8) : ∀ (rs : List Req) (k : Nat), (∃ (i : Nat) (h : i < rs.length), idxR rs id k = some (k + i) ∧ rs[i].ask.id = id ∧ ∀ j, (hj : j < i) → (rs[j]'(by omega)).ask.id ≠ id) ∨ (idxR rs id k = none ∧ ∀ j, (hj : j < rs.length) → rs[j].ask.id ≠ id)
  | [], k => .inr ⟨rfl, fun j hj => absurd hj (by simp)⟩
  | t :: l, k => by
    by_cases h : t.ask.id = id
    · left
      refine ⟨0, by simp, ?_, h, fun j hj => absurd hj (by omega)⟩
      rw [idxR, if_pos h]; simp
    · rcases idxR_spec id l (k + 1) with ⟨i, hi, h1, h2, h3⟩ | ⟨h1, h2⟩
      · left
        refine ⟨i + 1, by simp; omega, ?_, by simpa using h2, fun j hj => ?_⟩
        · rw [idxR, if_neg h, h1]; congr 1; omega
        · cases j with
          | zero => simpa using h
          | succ j => simpa using h3 j (by omega)
      · right
        refine ⟨by rw [idxR, if_neg h, h1], fun j hj => ?_⟩
        cases j with
        | zero => simpa using h
        | succ j => simpa using h2 j (by simpa using hj)
theorem reqIx_spec (rs : List Req) (id : List UInt8) : (∃ (i : Nat) (h : i < rs.length), reqIx rs id = some i ∧ rs[i].ask.id = id ∧ ∀ j, (hj : j < i) → (rs[j]'(by omega)).ask.id ≠ id) ∨ (reqIx rs id = none ∧ ∀ j, (hj : j < rs.length) → rs[j].ask.id ≠ id) := by
  have := idxR_spec id rs 0
  simpa [reqIx] using this
/-- No two requests have one id. -/
def DistR (rs : List Req) : Prop := ∀ i j, (hi : i < rs.length) → (hj : j < rs.length) → rs[i].ask.id = rs[j].ask.id → i = j
theorem reqIx_at {rs : List Req} (hd : DistR rs) {i : Nat} (hi : i < rs.length) : reqIx rs rs[i].ask.id = some i := by
  rcases reqIx_spec rs rs[i].ask.id with ⟨j, hj, h1, h2, _⟩ | ⟨_, h2⟩
  · rw [h1, hd j i hj hi h2]
  · exact absurd rfl (h2 i hi)
theorem reqIx_none {rs : List Req} {id : List UInt8} (h : reqIx rs id = none) : ∀ r ∈ rs, r.ask.id ≠ id := by
  intro r hr
  obtain ⟨j, hj, rfl⟩ := List.mem_iff_getElem.1 hr
  rcases reqIx_spec rs id with ⟨i, hi, h1, _⟩ | ⟨_, h2⟩
  · rw [h] at h1; cases h1
  · exact h2 j hj
theorem reqIx_some {rs : List Req} {id : List UInt8} {i : Nat} (h : reqIx rs id = some i) : ∃ hi : i < rs.length, rs[i].ask.id = id := by
  rcases reqIx_spec rs id with ⟨j, hj, h1, h2, _⟩ | ⟨h1, _⟩
  · rw [h] at h1; cases h1; exact ⟨hj, h2⟩
  · rw [h] at h1; cases h1
theorem takeR_ask {r r' : Req} {x : App} (h : takeR r x = some r') : r'.ask = r.ask := by
  unfold takeR at h
  split at h
  · split at h
    · cases h; rfl
    · cases h
  · split at h
    · split at h
      · cases h; rfl
      · cases h
    · split at h
      · split at h
        · cases h; rfl
        · cases h
      · cases h; rfl
theorem stepR_dist {rs : List Req} {x : App} (hd : DistR rs) : DistR (stepR rs x).2 := by
  unfold stepR
  cases hq : reqIx rs x.id with
  | none =>
    have hn := reqIx_none hq
    dsimp only
    split
    · intro i j hi hj he
      have hl : (rs ++ [newR x]).length = rs.length + 1 := by simp
      have hi' : i < rs.length + 1 := by rw [← hl]; exact hi
      have hj' : j < rs.length + 1 := by rw [← hl]; exact hj
      by_cases h1 : i < rs.length
      · by_cases h2 : j < rs.length
        · have he' : rs[i].ask.id = rs[j].ask.id := by simpa [List.getElem_append_left h1, List.getElem_append_left h2] using he
          exact hd i j h1 h2 he'
        · obtain rfl : j = rs.length := by omega
          have he' : rs[i].ask.id = x.id := by simpa [List.getElem_append_left h1, newR] using he
          exact absurd he' (hn _ (List.getElem_mem h1))
      · obtain rfl : i = rs.length := by omega
        by_cases h2 : j < rs.length
        · have he' : x.id = rs[j].ask.id := by simpa [List.getElem_append_left h2, newR] using he
          exact absurd he'.symm (hn _ (List.getElem_mem h2))
        · omega
    · exact hd
  | some i =>
    dsimp only
    split
    · exact hd
    · cases ht : takeR (rs.getD i default) x with
      | none => exact hd
      | some r =>
        obtain ⟨hi, hid⟩ := reqIx_some hq
        have ha := takeR_ask ht
        rw [getD_at rs _ hi] at ha
        have hget : ∀ j, (hj : j < (rs.set i r).length) → (rs.set i r)[j].ask.id = (rs[j]'(by simpa using hj)).ask.id := fun j hj => by
          rw [List.getElem_set]
          split
          · rename_i e; subst e; rw [ha]
          · rfl
        intro a b ha' hb' he
        rw [hget a ha', hget b hb'] at he
        exact hd a b (by simpa using ha') (by simpa using hb') he
theorem rsAt_dist (l : List App) : ∀ k, DistR (rsAt l k)
  | 0 => fun i j hi => absurd hi (by simp [rsAt])
  | k + 1 => stepR_dist (rsAt_dist l k)
theorem rsAt_len (l : List App) : ∀ k, (rsAt l k).length ≤ k
  | 0 => by simp [rsAt]
  | k + 1 => by
    have ih := rsAt_len l k
    rw [rsAt]
    unfold stepR
    split
    · split
      · simp; omega
      · show (rsAt l k).length ≤ k + 1; omega
    · split
      · show (rsAt l k).length ≤ k + 1; omega
      · split
        · show (rsAt l k).length ≤ k + 1; omega
        · simp; omega
/-- A request as both keep it. -/
def RelR (r : Req) (s : Stp) : Prop :=
  r.ask = s.ask ∧ r.grant = s.granted ∧ ((s.ended = 0 ∧ s.granted = false ∧ r.state = 2 ∧ r.end_ = -1) ∨ (s.ended = 0 ∧ s.granted = true ∧ r.state = 4 ∧ r.end_ = -1) ∨ (s.ended = 3 ∧ s.granted = false ∧ r.state = 5 ∧ r.end_ = s.end_) ∨ (s.ended = 4 ∧ r.state = 6 ∧ r.end_ = s.end_))
def Both (l : List App) (k : Nat) : Prop := ∀ id, (reqIx (rsAt l k) id = none ∧ (stpAt l id k).2 = false ∧ (stpAt l id k).1.ended = 0 ∧ (stpAt l id k).1.granted = false) ∨ ∃ i, ∃ hi : i < (rsAt l k).length, reqIx (rsAt l k) id = some i ∧ (stpAt l id k).2 = true ∧ RelR (rsAt l k)[i] (stpAt l id k).1
theorem both_zero (l : List App) : Both l 0 := fun id => .inl ⟨rfl, rfl, rfl, rfl⟩
theorem appF_kind {x : App} (h : appF x = 0) : 1 ≤ x.kind ∧ x.kind ≤ 4 := by
  unfold appF at h
  split at h
  · cases h
  · rename_i h1
    cases q : withinB x.kind 1 4 with
    | true => exact of_decide_eq_true q
    | false => exact absurd q h1
theorem headF_app {l : List App} {k : Nat} (h : headF l k = 0) : appF (l.getD k default) = 0 := by
  unfold headF at h
  split at h
  · rename_i h1; exact absurd h h1
  · rename_i h1; exact Decidable.not_not.1 h1
theorem step_same {l : List App} {k : Nat} (hb : Both l k) (hk : 1 ≤ (l.getD k default).kind ∧ (l.getD k default).kind ≤ 4) : (stepR (rsAt l k) (l.getD k default)).1 = stepF l k := by
  generalize hx : l.getD k default = x at *
  unfold stepR stepF
  rw [hx]
  rcases hb x.id with ⟨h1, h2, h3, h4⟩ | ⟨i, hi, h1, h2, h3⟩
  · rw [h1, h2]
    dsimp only
    by_cases hq : x.kind = 1
    · rw [if_pos hq, if_neg (fun e => by cases e.2), if_neg (fun e => e.1 hq), if_neg (fun e => e.1 hq)]
    · rw [if_neg hq, if_neg (fun e => hq e.1), if_pos ⟨hq, rfl⟩]
  · rw [h1, h2]
    dsimp only
    by_cases hq : x.kind = 1
    · rw [if_pos hq, if_pos ⟨hq, rfl⟩]
    · rw [if_neg hq, if_neg (fun e => hq e.1), if_neg (fun e => by cases e.2), getD_at _ _ hi]
      obtain ⟨ra, rg, rs⟩ := h3
      generalize (rsAt l k)[i] = r at *
      generalize (stpAt l x.id k).1 = s at *
      unfold takeR
      rcases (show x.kind = 2 ∨ x.kind = 3 ∨ x.kind = 4 by omega) with e | e | e
      · rw [if_pos e]
        rcases rs with ⟨p1, p2, p3, p4⟩ | ⟨p1, p2, p3, p4⟩ | ⟨p1, p2, p3, p4⟩ | ⟨p1, p3, p4⟩
        · simp [p1, p2, p3, e]
        · simp [p1, p2, p3, e]
        · simp [p1, p2, p3, e]
        · simp [p1, p3, e]
      · rw [if_neg (by omega), if_pos e]
        rcases rs with ⟨p1, p2, p3, p4⟩ | ⟨p1, p2, p3, p4⟩ | ⟨p1, p2, p3, p4⟩ | ⟨p1, p3, p4⟩
        · simp [p1, p2, p3, e]
        · simp [p1, p2, p3, e]
        · simp [p1, p2, p3, e]
        · simp [p1, p3, e]
      · rw [if_neg (by omega), if_neg (by omega), if_pos e]
        rcases rs with ⟨p1, p2, p3, p4⟩ | ⟨p1, p2, p3, p4⟩ | ⟨p1, p2, p3, p4⟩ | ⟨p1, p3, p4⟩
        · simp [p1, p2, p3, e]
        · simp [p1, p2, p3, e]
        · simp [p1, p2, p3, e]
        · simp [p1, p3, e]
theorem stp_other {l : List App} {k : Nat} {id : List UInt8} (h : (l.getD k default).id ≠ id) : stpAt l id (k + 1) = stpAt l id k := by
  rw [stpAt, stpOne, if_pos h]
theorem both_step {l : List App} {k : Nat} (hb : Both l k) (hk : 1 ≤ (l.getD k default).kind ∧ (l.getD k default).kind ≤ 4) (h0 : (stepR (rsAt l k) (l.getD k default)).1 = 0) : Both l (k + 1) := by
  have hd := rsAt_dist l (k + 1)
  have hstp : ∀ id, stpAt l id (k + 1) = stpOne (stpAt l id k) (l.getD k default) id := fun id => rfl
  have hrs : rsAt l (k + 1) = (stepR (rsAt l k) (l.getD k default)).2 := rfl
  generalize hx : l.getD k default = x at *
  have hother : ∀ id, x.id ≠ id → stpAt l id (k + 1) = stpAt l id k := fun id h => by rw [hstp, stpOne, if_pos h]
  rcases hb x.id with ⟨h1, h2, h3, h4⟩ | ⟨i, hi, h1, h2, h3⟩
  · have hn := reqIx_none h1
    unfold stepR at h0 hrs
    rw [h1] at h0 hrs
    dsimp only at h0 hrs
    by_cases hq : x.kind = 1
    · rw [if_pos hq] at hrs
      rw [hrs] at hd
      intro id
      rw [hrs]
      by_cases hid : x.id = id
      · subst hid
        right
        have hlen : (rsAt l k).length < (rsAt l k ++ [newR x]).length := by simp
        have hget : (rsAt l k ++ [newR x])[(rsAt l k).length] = newR x := by simp
        refine ⟨(rsAt l k).length, hlen, ?_, ?_, ?_⟩
        · have := reqIx_at hd hlen
          rw [hget] at this; exact this
        · rw [hstp, stpOne, if_neg (fun e => e rfl), if_pos hq]
        · rw [hget, hstp, stpOne, if_neg (fun e => e rfl), if_pos hq]
          exact ⟨rfl, rfl, .inl ⟨rfl, rfl, rfl, rfl⟩⟩
      · rw [hother id hid]
        rcases hb id with ⟨g1, g2, g3, g4⟩ | ⟨j, hj, g1, g2, g3⟩
        · left
          refine ⟨?_, g2, g3, g4⟩
          rcases reqIx_spec (rsAt l k ++ [newR x]) id with ⟨j, hj, e1, e2, _⟩ | ⟨e1, _⟩
          · exfalso
            by_cases hjl : j < (rsAt l k).length
            · rw [List.getElem_append_left hjl] at e2
              exact reqIx_none g1 _ (List.getElem_mem hjl) e2
            · have hl : (rsAt l k ++ [newR x]).length = (rsAt l k).length + 1 := by simp
              obtain rfl : j = (rsAt l k).length := by omega
              exact hid (by simpa [newR] using e2)
          · exact e1
        · right
          have hj' : j < (rsAt l k ++ [newR x]).length := by simp; omega
          have hget : (rsAt l k ++ [newR x])[j] = (rsAt l k)[j] := List.getElem_append_left hj
          refine ⟨j, hj', ?_, g2, by rw [hget]; exact g3⟩
          have := reqIx_at hd hj'
          rw [hget] at this
          obtain ⟨_, e⟩ := reqIx_some g1
          rw [e] at this; exact this
    · rw [if_neg hq] at h0; cases h0
  · unfold stepR at h0 hrs
    rw [h1] at h0 hrs
    dsimp only at h0 hrs
    by_cases hq : x.kind = 1
    · rw [if_pos hq] at h0; cases h0
    · rw [if_neg hq] at h0 hrs
      rw [getD_at _ _ hi] at h0 hrs
      cases ht : takeR (rsAt l k)[i] x with
      | none => rw [ht] at h0; cases h0
      | some r' =>
        rw [ht] at hrs
        dsimp only at hrs
        rw [hrs] at hd
        have ha := takeR_ask ht
        obtain ⟨_, hidi⟩ := reqIx_some h1
        intro id
        rw [hrs]
        by_cases hid : x.id = id
        · subst hid
          right
          have hil : i < ((rsAt l k).set i r').length := by simpa using hi
          have hget : ((rsAt l k).set i r')[i] = r' := by simp
          refine ⟨i, hil, ?_, ?_, ?_⟩
          · have := reqIx_at hd hil
            rw [hget, ha, hidi] at this; exact this
          · rw [hstp, stpOne, if_neg (fun e => e rfl), if_neg hq]
            split <;> exact h2
          · rw [hget, hstp, stpOne, if_neg (fun e => e rfl), if_neg hq]
            obtain ⟨ra, rg, rs⟩ := h3
            generalize (rsAt l k)[i] = r at *
            generalize (stpAt l x.id k).1 = s at *
            unfold takeR at ht
            rcases (show x.kind = 2 ∨ x.kind = 3 ∨ x.kind = 4 by omega) with e | e | e
            · rw [if_pos e] at ht ⊢
              split at ht
              · rename_i hst
                cases ht
                rcases rs with ⟨p1, p2, p3, p4⟩ | ⟨p1, p2, p3, p4⟩ | ⟨p1, p2, p3, p4⟩ | ⟨p1, p3, p4⟩
                · exact ⟨ra, rfl, .inr (.inl ⟨p1, rfl, rfl, p4⟩)⟩
                · omega
                · omega
                · omega
              · cases ht
            · rw [if_neg (by omega), if_pos e] at ht
              rw [if_neg (by omega)]
              split at ht
              · rename_i hst
                cases ht
                rcases rs with ⟨p1, p2, p3, p4⟩ | ⟨p1, p2, p3, p4⟩ | ⟨p1, p2, p3, p4⟩ | ⟨p1, p3, p4⟩
                · exact ⟨ra, rg, .inr (.inr (.inl ⟨e, p2, rfl, rfl⟩))⟩
                · omega
                · omega
                · omega
              · cases ht
            · rw [if_neg (by omega), if_neg (by omega), if_pos e] at ht
              rw [if_neg (by omega)]
              split at ht
              · cases ht
                exact ⟨ra, rg, .inr (.inr (.inr ⟨e, rfl, rfl⟩))⟩
              · cases ht
        · rw [hother id hid]
          have hset : ∀ j, (hj : j < ((rsAt l k).set i r').length) → ((rsAt l k).set i r')[j].ask.id = ((rsAt l k)[j]'(by simpa using hj)).ask.id := fun j hj => by
            rw [List.getElem_set]
            split
            · rename_i e; subst e; rw [ha]
            · rfl
          rcases hb id with ⟨g1, g2, g3, g4⟩ | ⟨j, hj, g1, g2, g3⟩
          · left
            refine ⟨?_, g2, g3, g4⟩
            rcases reqIx_spec ((rsAt l k).set i r') id with ⟨j, hj, e1, e2, _⟩ | ⟨e1, _⟩
            · exfalso
              rw [hset j hj] at e2
              exact reqIx_none g1 _ (List.getElem_mem (by simpa using hj)) e2
            · exact e1
          · right
            obtain ⟨_, gid⟩ := reqIx_some g1
            have hji : i ≠ j := fun e => by
              subst e
              exact hid (hidi.symm.trans gid)
            have hj' : j < ((rsAt l k).set i r').length := by simpa using hj
            have hget : ((rsAt l k).set i r')[j] = (rsAt l k)[j] := by rw [List.getElem_set, if_neg hji]
            refine ⟨j, hj', ?_, g2, by rw [hget]; exact g3⟩
            have := reqIx_at hd hj'
            rw [hget, gid] at this; exact this
theorem both_all {l : List App} : ∀ k, (∀ j, j < k → folF l j = 0) → Both l k
  | 0, _ => both_zero l
  | k + 1, h => by
    have ih := both_all k (fun j hj => h j (by omega))
    have hk := h k (by omega)
    unfold folF at hk
    split at hk
    · rename_i h1; exact absurd hk h1
    · rename_i h1
      exact both_step ih (appF_kind (headF_app (Decidable.not_not.1 h1))) hk
theorem fol_same {l : List App} {k : Nat} (h : ∀ j, j < k → folF l j = 0) : folF l k = folH l k := by
  unfold folF folH
  split
  · rfl
  · rename_i h1
    exact step_same (both_all k h) (appF_kind (headF_app (Decidable.not_not.1 h1)))
theorem first_same {f g : Nat → Int} : ∀ n, (∀ k, k < n → (∀ j, j < k → f j = 0) → f k = g k) → firstF f n = firstF g n ∧ (firstF f n = 0 → ∀ j, j < n → f j = 0 ∧ g j = 0)
  | 0, _ => ⟨rfl, fun _ j hj => absurd hj (by omega)⟩
  | n + 1, h => by
    obtain ⟨ih1, ih2⟩ := first_same n (fun k hk hj => h k (by omega) hj)
    by_cases h0 : firstF f n = 0
    · have hz := ih2 h0
      have hfn := h n (by omega) (fun j hj => (hz j hj).1)
      refine ⟨?_, fun hf j hj => ?_⟩
      · rw [firstF, firstF, ← ih1, if_pos h0, if_pos h0, hfn]
      · rw [firstF, if_pos h0] at hf
        rcases Nat.lt_or_eq_of_le (Nat.lt_succ_iff.1 hj) with e | e
        · exact hz j e
        · subst e; exact ⟨hf, by rw [← hfn]; exact hf⟩
    · refine ⟨?_, fun hf => ?_⟩
      · rw [firstF, firstF, ← ih1, if_neg h0, if_neg h0]
      · rw [firstF, if_neg h0] at hf; exact absurd hf h0
theorem apps_same (l : List App) : appsFault l = appsFaultH l := by
  unfold appsFault appsFaultH
  split
  · rfl
  · exact (first_same l.length (fun k _ h => fol_same h)).1
theorem apps_all {l : List App} (h : appsFault l = 0) : l.length ≤ 500 ∧ ∀ j, j < l.length → folF l j = 0 := by
  unfold appsFault at h
  split at h
  · cases h
  · exact ⟨by omega, firstF_all h⟩
end Go.Proofs.YtgbpnghgcffkbaaDoor
