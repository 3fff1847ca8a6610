/-
  What 'follow' of package rights keeps: the requests by pointers, a map of them, copies of them.
-/
import Derived.Test.YtgbpnghgcffkbaaDoorApp
import Derived.Test.YtgbpnghgcffkbaaDoorVMap
namespace Go.Proofs.YtgbpnghgcffkbaaDoor
open Go.RowKit
set_option linter.unusedVariables false
set_option linter.unusedSimpArgs false

theorem step_vmap_upd {P : Program} {K E : TypeId} {z : Value} {w : World} {b n : Nat} {f : Lit → Option Value} {ops : Array Oper} {o : Oper} {a : Act} {Q : Exit → Act → World → Prop} {K' : Act → World → Prop} {E' : Prop} (hg : o.guard = none) (m x v : Operand) (T : TypeId) (hop : o.op = Op.mapUpdate T m x v)
    (h : VMap P K z w b n f) (KL : Maps.Keyed P K) (ht : P.underlying T = some (.map K E)) (hn : n < maxLen) {key : Value} (kl : Lit) (c : Value)
    (hm : a.eval m = .map (some b)) (hx : a.eval x = key) (hv : a.eval v = c) (hkey : keyOf P K key = some kl) (hk : WideAt.IsKeyLit kl)
    (hK : ∀ w', Hid (VMap P K z w' b (n + 1) (fun x => if x.sameKey kl then some c else f x)) → Hid (w.grownBy w' (some b)) → K' (a.put o.dst undef) w') :
    if Region.wanted o (yielded ops a.tmps) = true then Oper.wp P o a w K' Q else E' := by
  have hw : Region.wanted o (yielded ops a.tmps) = true := by simp [Region.wanted, hg]
  rw [if_pos hw]
  obtain ⟨w', hrun, r1, r2⟩ := h.put KL ht hn c hkey hk
  unfold Oper.wp
  simp [execOp, hop, hm, hx, hv, hrun, Result.andThen]
  exact hK w' r1 r2
def ptrs (gs : List Nat) : List Value := gs.map fun g => .pointer (some ⟨g, 0, none⟩)
theorem ptrs_len (gs : List Nat) : (ptrs gs).length = gs.length := by simp [ptrs]
theorem ptrs_app (gs : List Nat) (g : Nat) : ptrs (gs ++ [g]) = ptrs gs ++ [.pointer (some ⟨g, 0, none⟩)] := by simp [ptrs]
theorem idxR_congr (id : List UInt8) : ∀ (rs rs' : List Req) (k : Nat), rs.map (·.ask.id) = rs'.map (·.ask.id) → idxR rs id k = idxR rs' id k
  | [], [], _, _ => rfl
  | [], r :: rs, _, h => by simp at h
  | r :: rs, [], _, h => by simp at h
  | r :: rs, r' :: rs', k, h => by
    rw [List.map_cons, List.map_cons] at h
    injection h with h1 h2
    rw [idxR, idxR, h1, idxR_congr id rs rs' (k + 1) h2]
theorem idxR_app (id : List UInt8) (r : Req) : ∀ (rs : List Req) (k : Nat), idxR (rs ++ [r]) id k = match idxR rs id k with
    | some i => some i
    | none => if r.ask.id = id then some (k + rs.length) else none
  | [], k => by simp [idxR]
  | a :: rs, k => by
    rw [List.cons_append, idxR, idxR]
    by_cases h : a.ask.id = id
    · rw [if_pos h, if_pos h]
    · rw [if_neg h, if_neg h, idxR_app id r rs (k + 1)]
      cases idxR rs id (k + 1) with
      | some i => rfl
      | none =>
        dsimp only
        rw [List.length_cons, show k + 1 + rs.length = k + (rs.length + 1) by omega]
theorem blk_not_map {P : Program} {K : TypeId} {z : Value} {w : World} {b n g : Nat} {f : Lit → Option Value} {t : TypeId} {cs : List Value} (h : VMap P K z w b n f) (k : Blk w g t cs) : g ≠ b := by
  obtain ⟨D, ⟨es, clock, h1, _⟩, _⟩ := h
  rintro rfl
  unfold Blk at k
  rw [h1] at k
  simp at k
theorem blk_not_row {w : World} {g : Nat} {t : TypeId} {cs : List Value} (h : Blk w g t cs) {B : Nat} {e : TypeId} {size k : Nat} {v : Value} {xs : List Value} (hr : w.ownsRow B e size v k xs) (hte : t ≠ e) : some g ≠ v.ownBlock := by
  rcases hr.2 with ⟨rfl, _⟩ | ⟨g', cap, cur, rfl, _, hgb, _⟩
  · simp [Value.ownBlock]
  · intro e'
    obtain rfl : g = g' := by simpa [Value.ownBlock] using e'
    have := (show w.heap[g]? = _ from h).symm.trans hgb
    simp only [Option.some.injEq, Obj.cells.injEq] at this
    exact hte this.2.1
/-- A row of pointers to requests, that the call owns. -/
structure RowR (B : Nat) (rs : List Req) (gs : List Nat) (v : Value) (w : World) : Prop where
  row : w.ownsRow B 46 1 v gs.length (ptrs gs)
  len : gs.length = rs.length
  blk : ∀ i, (h : i < gs.length) → (h' : i < rs.length) → Blk w gs[i] 48 (reqCells rs[i])
  low : ∀ g ∈ gs, B ≤ g
section
variable {B : Nat} {rs nw : List Req} {gs hs : List Nat} {v vo vn : Value} {w w' : World} {b n : Nat} {f : Lit → Option Value}
theorem RowR.kept {row : Option Nat} (h : RowR B rs gs v w) (hg : w.grownBy w' row) (h1 : v.ownBlock = none ∨ v.ownBlock ≠ row) (h2 : ∀ g ∈ gs, some g ≠ row) : RowR B rs gs v w' :=
  ⟨h.row.kept hg h1, h.len, fun i hi hi' => (h.blk i hi hi').same (grown_same hg) ⟨(h.blk i hi hi').lt, h2 _ (List.getElem_mem hi)⟩, h.low⟩
theorem RowR.below (h : RowR B rs gs v w) (hb : Below w.heap.size w w') : RowR B rs gs v w' :=
  h.kept (below_grown hb) (by cases hv : v.ownBlock <;> simp) (by simp)
theorem RowR.nil (B : Nat) (w : World) : RowR B [] [] (.slice none 0 0) w := ⟨World.ownsRow_nil _ _ _ _, rfl, fun i hi => absurd hi (by simp), fun g hg => by cases hg⟩
theorem RowR.lt (h : RowR B rs gs v w) {g : Nat} (hg : g ∈ gs) : g < w.heap.size := by
  obtain ⟨i, hi, rfl⟩ := List.mem_iff_getElem.1 hg
  exact (h.blk i hi (by rw [← h.len]; exact hi)).lt
theorem RowR.notRow (h : RowR B rs gs v w) {g : Nat} (hg : g ∈ gs) {B' n' : Nat} {u : Value} {xs : List Value} (hr : w.ownsRow B' 46 1 u n' xs) : some g ≠ u.ownBlock := by
  obtain ⟨i, hi, rfl⟩ := List.mem_iff_getElem.1 hg
  exact blk_not_row (h.blk i hi (by rw [← h.len]; exact hi)) hr (by decide)
theorem RowR.cell (h : RowR B rs gs v w) {i : Nat} (hi : i < gs.length) : ∃ g c, v = .slice (some ⟨g, 0, none⟩) gs.length c ∧ w.cell? ⟨g, i, none⟩ = some (.pointer (some ⟨gs[i], 0, none⟩)) := by
  rcases h.row.2 with ⟨_, h2⟩ | ⟨g, cap, cur, h1, _⟩
  · omega
  · refine ⟨g, cap, h1, ?_⟩
    have hr := h.row
    rw [h1] at hr
    rw [hr.cellAt i (by omega)]
    simp [ptrs, hi]
/-- One more. -/
theorem RowR.push (h : RowR B rs gs v w) {r : Req} {g : Nat} (hg : w.grownBy w' v.ownBlock) (hrow : w'.ownsRow B 46 1 vn (gs.length + 1) (ptrs gs ++ [.pointer (some ⟨g, 0, none⟩)])) (hk : Blk w g 48 (reqCells r)) (hB : B ≤ g) : RowR B (rs ++ [r]) (gs ++ [g]) vn w' := by
  have hkg : Blk w' g 48 (reqCells r) := hk.same (grown_same hg) ⟨hk.lt, blk_not_row hk h.row (by decide)⟩
  refine ⟨by rw [List.length_append, List.length_singleton, ptrs_app]; exact hrow, by simp [h.len], fun i hi hi' => ?_, fun x hx => ?_⟩
  · by_cases hq : i < gs.length
    · have hq' : i < rs.length := by rw [← h.len]; exact hq
      rw [List.getElem_append_left hq, List.getElem_append_left hq']
      exact (h.blk i hq hq').same (grown_same hg) ⟨(h.blk i hq hq').lt, h.notRow (List.getElem_mem hq) h.row⟩
    · have hl : (gs ++ [g]).length = gs.length + 1 := by simp
      obtain rfl : i = gs.length := by omega
      have e1 : (gs ++ [g])[gs.length] = g := by simp
      have e2 : (rs ++ [r])[gs.length] = r := by
        have : gs.length = rs.length := h.len
        simp [this]
      rw [e1, e2]; exact hkg
  · rcases List.mem_append.1 hx with hx | hx
    · exact h.low x hx
    · rw [List.mem_singleton.1 hx]; exact hB
structure FSt (B : Nat) (rs nw : List Req) (gs hs : List Nat) (vo vn : Value) (b n : Nat) (f : Lit → Option Value) (w : World) : Prop where
  o : RowR B rs gs vo w
  nw : RowR B nw hs vn w
  map : VMap Tryd.prog 9 (.pointer none) w b n f
  nd : ∀ i j, (hi : i < gs.length) → (hj : j < gs.length) → gs[i] = gs[j] → i = j
  dis : ∀ g ∈ gs, g ∉ hs
  sep : vn.ownBlock = none ∨ vn.ownBlock ≠ vo.ownBlock
  key : ∀ id, f (.string id) = (reqIx rs id).map (fun i => Value.pointer (some ⟨gs.getD i 0, 0, none⟩))
  low : B ≤ b
theorem FSt.start (w : World) : FSt w.heap.size [] [] [] [] (.slice none 0 0) (.slice none 0 0) w.heap.size 0 (fun _ => none) (w.alloc (.map #[] 0)) :=
  ⟨RowR.nil _ _, RowR.nil _ _, VMap.made w, fun i j hi => absurd hi (by simp), fun g hg => (by cases hg), .inl rfl, fun id => rfl, Nat.le_refl _⟩
theorem FSt.below (h : FSt B rs nw gs hs vo vn b n f w) (hb : Below w.heap.size w w') : FSt B rs nw gs hs vo vn b n f w' :=
  ⟨h.o.below hb, h.nw.below hb, h.map.below hb h.map.lt, h.nd, h.dis, h.sep, h.key, h.low⟩
theorem FSt.reset (h : FSt B rs nw gs hs vo vn b n f w) : FSt B rs [] gs [] vo (.slice none 0 0) b n f w :=
  ⟨h.o, RowR.nil _ _, h.map, h.nd, fun g _ => by simp, .inl rfl, h.key, h.low⟩
/-- One request is changed. -/
theorem FSt.take (h : FSt B rs nw gs hs vo vn b n f w) {i : Nat} (hi : i < gs.length) (hi' : i < rs.length) {r' : Req} (hg : w.grownBy w' (some gs[i])) (hk : Blk w' gs[i] 48 (reqCells r')) (ha : r'.ask = rs[i].ask) : FSt B (rs.set i r') nw gs hs vo vn b n f w' := by
  have hmem : gs[i] ∈ gs := List.getElem_mem hi
  refine ⟨⟨h.o.row.kept hg (by
      cases hv : vo.ownBlock with
      | none => exact .inl rfl
      | some q => exact .inr (fun e => h.o.notRow hmem h.o.row (by rw [hv]; exact e.symm))), by rw [List.length_set]; exact h.o.len, fun j hj hj' => ?_, h.o.low⟩, h.nw.kept hg (by
      cases hv : vn.ownBlock with
      | none => exact .inl rfl
      | some q => exact .inr (fun e => h.o.notRow hmem h.nw.row (by rw [hv]; exact e.symm))) (fun g hg' e => h.dis _ hmem (by rw [← Option.some.inj e]; exact hg')), h.map.grown hg (fun e => blk_not_map h.map (h.o.blk i hi hi') (Option.some.inj e).symm), h.nd, h.dis, h.sep, fun id => ?_, h.low⟩
  · rw [List.getElem_set]
    split
    · rename_i e; subst e; exact hk
    · rename_i e
      have hj0 : j < rs.length := by simpa using hj'
      exact (h.o.blk j hj hj0).same (grown_same hg) ⟨(h.o.blk j hj hj0).lt, fun e2 => e (h.nd i j hi hj (Option.some.inj e2).symm)⟩
  · rw [h.key id]
    have : reqIx (rs.set i r') id = reqIx rs id := by
      refine idxR_congr id _ _ 0 ?_
      apply List.ext_getElem (by simp)
      intro j h1 h2
      rw [List.getElem_map, List.getElem_map, List.getElem_set]
      split
      · rename_i e; subst e; rw [ha]
      · rfl
    rw [this]
/-- One more request: its block g, in the row and in the map. -/
theorem FSt.more (h : FSt B rs nw gs hs vo vn b n f w) {x : App} {g : Nat} {vo' : Value} (hnone : reqIx rs x.id = none)
    (ho : RowR B (rs ++ [newR x]) (gs ++ [g]) vo' w') (hn : RowR B nw hs vn w') (hm : VMap Tryd.prog 9 (.pointer none) w' b (n + 1) (fun y => if y.sameKey (.string x.id) then some (.pointer (some ⟨g, 0, none⟩)) else f y))
    (hgs : g ∉ gs) (hhs : g ∉ hs) (hsep : vn.ownBlock = none ∨ vn.ownBlock ≠ vo'.ownBlock) : FSt B (rs ++ [newR x]) nw (gs ++ [g]) hs vo' vn b (n + 1) (fun y => if y.sameKey (.string x.id) then some (.pointer (some ⟨g, 0, none⟩)) else f y) w' := by
  refine ⟨ho, hn, hm, fun i j hi hj e => ?_, fun q hq => ?_, hsep, fun id => ?_, h.low⟩
  · have hl : (gs ++ [g]).length = gs.length + 1 := by simp
    by_cases h1 : i < gs.length
    · by_cases h2 : j < gs.length
      · rw [List.getElem_append_left h1, List.getElem_append_left h2] at e
        exact h.nd i j h1 h2 e
      · obtain rfl : j = gs.length := by omega
        rw [List.getElem_append_left h1] at e
        have e2 : gs[i] = g := by simpa using e
        exact absurd (e2 ▸ List.getElem_mem h1) hgs
    · obtain rfl : i = gs.length := by omega
      by_cases h2 : j < gs.length
      · rw [List.getElem_append_left h2] at e
        have e2 : g = gs[j] := by simpa using e
        exact absurd (e2 ▸ List.getElem_mem h2) hgs
      · omega
  · rcases List.mem_append.1 hq with hq | hq
    · exact h.dis q hq
    · rw [List.mem_singleton.1 hq]; exact hhs
  · have happ : reqIx (rs ++ [newR x]) id = match reqIx rs id with
        | some i => some i
        | none => if x.id = id then some rs.length else none := by
      have := idxR_app id (newR x) rs 0
      rw [Nat.zero_add] at this
      exact this
    rw [happ]
    by_cases e : id = x.id
    · subst e
      rw [if_pos (WideAt.sameKey_self (by trivial)), hnone]
      have hl : rs.length = gs.length := h.o.len.symm
      simp [hl]
    · rw [if_neg (by rw [Maps.sameKey_ne (fun e2 => e (by injection e2))]; simp), h.key id]
      cases hq : reqIx rs id with
      | none => simp [Ne.symm e]
      | some i =>
        obtain ⟨hi, _⟩ := reqIx_some hq
        have hi2 : i < gs.length := by rw [h.o.len]; exact hi
        simp [List.getD_eq_getElem?_getD, List.getElem?_append_left hi2]
/-- One more copy. -/
theorem FSt.copy (h : FSt B rs nw gs hs vo vn b n f w) {r : Req} {g : Nat} {vn' : Value} (hg : w.grownBy w' vn.ownBlock) (hrow : w'.ownsRow B 46 1 vn' (hs.length + 1) (ptrs hs ++ [.pointer (some ⟨g, 0, none⟩)]))
    (hk : Blk w g 48 (reqCells r)) (hB : B ≤ g) (hgs : g ∉ gs) (hnew : vn.ownBlock = vn'.ownBlock ∨ ∃ q, vn'.ownBlock = some q ∧ ∀ p, vo.ownBlock = some p → p < q) : FSt B rs (nw ++ [r]) gs (hs ++ [g]) vo vn' b n f w' := by
  have hsep : vo.ownBlock = none ∨ vo.ownBlock ≠ vn.ownBlock := by
    rcases h.sep with e | e
    · rw [e]
      cases hv : vo.ownBlock with
      | none => exact .inl rfl
      | some q => exact .inr (by simp)
    · exact .inr (fun e2 => e e2.symm)
  refine ⟨h.o.kept hg hsep (fun q hq => h.o.notRow hq h.nw.row), h.nw.push hg hrow hk hB, h.map.grown hg (h.map.notRow h.nw.row), h.nd, fun q hq hq2 => ?_, ?_, h.key, h.low⟩
  · rcases List.mem_append.1 hq2 with hq2 | hq2
    · exact h.dis q hq hq2
    · rw [List.mem_singleton.1 hq2] at hq; exact hgs hq
  · rcases hnew with e | ⟨q, e, hlt⟩
    · rw [← e]; exact h.sep
    · right
      rw [e]
      intro e2
      have := hlt q e2.symm
      omega
end
end Go.Proofs.YtgbpnghgcffkbaaDoor
