/-
  A row of numbers that is taken from at its head or its end and grows at its end ('next = next[1:]', 'append(next, k)'): over any program.
-/
import Derived.Test.YtdljgjlkfihjdaaGreatDoorBase
import Derived.ArgAppend
namespace Go.Proofs.YtdljgjlkfihjdaaGreatDoor
open Go.RowKit
set_option linter.unusedVariables false
set_option linter.unusedSimpArgs false

/-- The numbers xs lie in block g (of B or behind it), from some place on; behind them there may be room. -/
def Que (w : World) (e : TypeId) (B g : Nat) (v : Value) (xs : List Int) : Prop :=
  ∃ ao off cap cur, v = .slice ao xs.length cap ∧ xs.length ≤ cap ∧ cap ≤ maxLen ∧ B ≤ g ∧
    (0 < cap → ao = some ⟨g, off, none⟩ ∧ w.heap[g]? = some (.cells cur e (0, 0)) ∧ cur.size = off + cap ∧ ∀ j, (h : j < xs.length) → cur[off + j]? = some (.int .i64 xs[j]))
section
variable {P : Program} {w w' : World} {e : TypeId} {B g : Nat} {v : Value} {xs : List Int}
theorem Que.base (h : Que w e B g v xs) : B ≤ g := by obtain ⟨_, _, _, _, _, _, _, h, _⟩ := h; exact h
theorem Que.same (h : Que w e B g v xs) (hs : w'.heap[g]? = w.heap[g]?) : Que w' e B g v xs := by
  obtain ⟨ao, off, cap, cur, h1, h2, h3, h4, h5⟩ := h
  exact ⟨ao, off, cap, cur, h1, h2, h3, h4, fun h => ⟨(h5 h).1, hs.trans (h5 h).2.1, (h5 h).2.2⟩⟩
theorem Que.len (h : Que w e B g v xs) : ∃ ao c, v = .slice ao xs.length c := by obtain ⟨ao, off, cap, cur, h1, _⟩ := h; exact ⟨ao, cap, h1⟩
theorem Que.lt (h : Que w e B g v xs) (hn : xs ≠ []) : g < w.heap.size := by
  obtain ⟨ao, off, cap, cur, h1, h2, h3, h4, h5⟩ := h
  have := List.length_pos_iff.2 hn
  exact (Array.getElem?_eq_some_iff.1 (h5 (by omega)).2.1).1
theorem Que.new (w : World) (e : TypeId) (k : Int) : Que (w.alloc (.cells #[.int .i64 k] e)) e w.heap.size w.heap.size (.slice (some ⟨w.heap.size, 0, none⟩) 1 1) [k] :=
  ⟨_, 0, 1, #[.int .i64 k], rfl, Nat.le_refl _, by unfold maxLen; omega, Nat.le_refl _, fun _ => ⟨rfl, heap_alloc_new w _, rfl, fun j hj => by
    have : j = 0 := by simpa using hj
    subst this; rfl⟩⟩
theorem Que.mono {B' : Nat} (h : Que w e B g v xs) (hB : B' ≤ B) : Que w e B' g v xs := by
  obtain ⟨ao, off, cap, cur, h1, h2, h3, h4, h5⟩ := h
  exact ⟨ao, off, cap, cur, h1, h2, h3, by omega, h5⟩
/-- Its head. -/
theorem Que.head {x : Int} (h : Que w e B g v (x :: xs)) : ∃ off cap, v = .slice (some ⟨g, off, none⟩) (xs.length + 1) cap ∧ xs.length + 1 ≤ cap ∧ cap ≤ maxLen ∧ w.cell? ⟨g, off, none⟩ = some (.int .i64 x) ∧
    Que w e B g (.slice (if cap = 1 then some ⟨g, off, none⟩ else some ⟨g, off + 1, none⟩) xs.length (cap - 1)) xs := by
  obtain ⟨ao, off, cap, cur, rfl, h2, h3, h4, h5⟩ := h
  rw [List.length_cons] at h2
  obtain ⟨rfl, h6, h7, h8⟩ := h5 (by omega)
  refine ⟨off, cap, rfl, h2, h3, ?_, ?_⟩
  · rw [cell_of_row w g off _ e (0, 0) h6]
    exact h8 0 (by simp)
  · refine ⟨_, off + 1, cap - 1, cur, rfl, by omega, by omega, h4, fun hc => ⟨by rw [if_neg (by omega)], h6, by omega, fun j hj => ?_⟩⟩
    have := h8 (j + 1) (by simpa using hj)
    rw [show off + 1 + j = off + (j + 1) by omega]
    simpa using this
/-- Its end. -/
theorem Que.last {x : Int} (h : Que w e B g v (xs ++ [x])) : ∃ off cap, v = .slice (some ⟨g, off, none⟩) (xs.length + 1) cap ∧ xs.length + 1 ≤ cap ∧ cap ≤ maxLen ∧ w.cell? ⟨g, off + xs.length, none⟩ = some (.int .i64 x) ∧
    Que w e B g (.slice (some ⟨g, off, none⟩) xs.length cap) xs := by
  obtain ⟨ao, off, cap, cur, rfl, h2, h3, h4, h5⟩ := h
  rw [List.length_append, List.length_singleton] at h2 ⊢
  obtain ⟨rfl, h6, h7, h8⟩ := h5 (by omega)
  refine ⟨off, cap, rfl, h2, h3, ?_, ?_⟩
  · rw [cell_of_row w g _ _ e (0, 0) h6]
    have := h8 xs.length (by simp)
    rw [this]; simp
  · refine ⟨_, off, cap, cur, rfl, by omega, by omega, h4, fun hc => ⟨rfl, h6, h7, fun j hj => ?_⟩⟩
    have := h8 j (by simp; omega)
    rw [this, List.getElem_append_left hj]
theorem que_of_own {n : Nat} (h : w.ownsRow B e 1 v n (xs.map (.int .i64))) (hn : n = xs.length) (hpos : 0 < n) : ∃ g, Que w e B g v xs := by
  subst hn
  rcases h.2 with ⟨_, h0⟩ | ⟨g, cap, cur, rfl, hb, hh, hnc, hm, hsz, hel⟩
  · omega
  · refine ⟨g, _, 0, cap, cur, rfl, hnc, hm, hb, fun _ => ⟨rfl, hh, by omega, fun j hj => ?_⟩⟩
    have h1 : (cur.toList.take (xs.length * 1))[j]? = (xs.map (Value.int .i64))[j]? := by rw [hel]
    rw [Nat.mul_one, List.getElem?_take_of_lt hj, List.getElem?_map, List.getElem?_eq_getElem hj] at h1
    rw [Nat.zero_add]
    simpa using h1
end
section
variable {P : Program} {w : World} {ops : Array Oper} {o : Oper} {a : Act} {Q : Exit → Act → World → Prop}
/-- 'append(v, k)' where the row of the one number has been laid in a new block just ahead. -/
theorem wp_app_que {K : Act → World → Prop} (s x : Operand) (t : TypeId)
    (ho : o.op = .call { callee := .builtin .append, args := #[s, x], argTypes := #[t, t] })
    (e : TypeId) (ht : P.underlying t = some (.slice e)) (hinfo : (P.info? e).map (fun i => (i.zero, i.size, i.bytes)) = some (some (.int .i64 0), 1, 8))
    {B g : Nat} {v : Value} {xs : List Int} (k : Int) (hq : Que w e B g v xs) (hB : B ≤ w.heap.size)
    (hs : a.eval s = v) (hx : a.eval x = .slice (some ⟨w.heap.size, 0, none⟩) 1 1) (hn : xs.length ≤ 1000000)
    (h : ∀ v' g' w', Hid (Que w' e B g' v' (xs ++ [k])) → Hid (w.grownBy w' (some g)) → Hid (∀ w0, Below B w0 w → Below B w0 w') → Hid (g' = g ∨ w.heap.size ≤ g') → K (a.put o.dst v') w') :
    o.wp P a (w.alloc (.cells #[.int .i64 k] e)) K Q := by
  obtain ⟨i, hi, hz, h1, h2⟩ := info_parts hinfo
  have hcell : ∀ j u, [Value.int .i64 k][j]? = some u → (w.alloc (.cells #[.int .i64 k] e)).cell? ((⟨w.heap.size, 0, none⟩ : Addr).add j) = some u := by
    intro j u hj
    have hadd : (⟨w.heap.size, 0, none⟩ : Addr).add j = ⟨w.heap.size, j, none⟩ := by unfold Addr.add; split <;> simp_all
    rw [hadd, cell_of_row _ _ j _ e (0, 0) (heap_alloc_new w _)]
    simpa using hj
  have hone : ∀ u ∈ [Value.int .i64 k], u.oneCell' = true := by intro u hu; rw [List.mem_singleton.1 hu]; rfl
  have hqb := hq.base
  obtain ⟨ao, off, cap, cur, rfl, q1, q2, q3, q4⟩ := hq
  have hlx : (xs ++ [k]).length = xs.length + 1 := by simp
  suffices hmain : ∃ v' g' w', (Builtin.append_ #[t, t] o.type #[.slice ao xs.length cap, .slice (some ⟨w.heap.size, 0, none⟩) 1 1]).run P (w.alloc (.cells #[.int .i64 k] e)) = .ok v' w' ∧
      Que w' e B g' v' (xs ++ [k]) ∧ w.grownBy w' (some g) ∧ (g' = g ∨ w.heap.size ≤ g') by
    obtain ⟨v', g', w', hrun, r1, r2, r3⟩ := hmain
    unfold Oper.wp execOp
    simp only [ho, resolve, invoke, builtin, Sem.run_bind, Sem.run_pure, Result.andThen_ok, List.map_toArray, List.map_cons, List.map_nil, hs, hx, hrun]
    exact h v' g' w' r1 r2 (fun w0 hb => hb.grown r2 hB (fun k hk => by cases hk; exact hqb)) r3
  have hbytes : (xs.length + 1) * 8 ≤ 140737488355328 := by omega
  by_cases hr : xs.length + 1 ≤ cap
  · obtain ⟨rfl, c1, c2, c3⟩ := q4 (by omega)
    have hgl : g < w.heap.size := (Array.getElem?_eq_some_iff.1 c1).1
    have c1' : (w.alloc (.cells #[.int .i64 k] e)).heap[g]? = some (.cells cur e (0, 0)) := (Below.heap_alloc w _ g hgl).trans c1
    have hrun := run_append_room_cells (P := P) (w.alloc (.cells #[.int .i64 k] e)) t o.type e i ht hi g off xs.length cap ⟨w.heap.size, 0, none⟩ 1 1 [.int .i64 k] (by rw [h1]; rfl) hcell hone hr
      (fun j hj => by
        have hj0 : j = 0 := by simpa using hj
        subst hj0
        rw [h1, cell_of_row _ g _ _ e (0, 0) c1', Array.getElem?_eq_getElem (by omega)]; rfl)
      (fun j hj => by
        simp only [World.frozen?, c1', Bool.and_eq_false_iff, decide_eq_false_iff_not]
        omega)
    rw [h1, Nat.mul_one] at hrun
    refine ⟨_, g, _, hrun, ⟨_, off, cap, cur.setIfInBounds (off + xs.length) (.int .i64 k), by rw [hlx], by rw [hlx]; exact hr, q2, hqb, fun _ => ⟨rfl, ?_, by rw [Array.size_setIfInBounds]; exact c2, fun j hj => ?_⟩⟩, ?_, .inl rfl⟩
    · show ((w.alloc (.cells #[.int .i64 k] e)).setCell ⟨g, off + xs.length, none⟩ (.int .i64 k)).heap[g]? = _
      simp only [World.setCell, Array.getElem?_modify, c1']
      rfl
    · rw [Array.getElem?_setIfInBounds]
      by_cases hjl : j = xs.length
      · subst hjl
        rw [if_pos rfl, if_pos (by omega)]; simp
      · rw [if_neg (by omega)]
        have hj' : j < xs.length := by omega
        rw [c3 j hj', List.getElem_append_left hj']
    · refine ⟨rfl, rfl, rfl, by show w.heap.size ≤ ((w.alloc (.cells #[.int .i64 k] e)).setCell ⟨g, off + xs.length, none⟩ (.int .i64 k)).heap.size; simp [World.setCell], fun k' hk' hne => ?_⟩
      show ((w.alloc (.cells #[.int .i64 k] e)).setCell ⟨g, off + xs.length, none⟩ (.int .i64 k)).heap[k']? = _
      rw [Below.heap_setCell _ _ _ _ (fun e => hne (by rw [e]))]
      exact Below.heap_alloc w _ k' hk'
  · have hfin : ∀ v' w', (w').ownsRow (w.alloc (.cells #[.int .i64 k] e)).heap.size e 1 v' (xs.length + 1) (xs.map (.int .i64) ++ [.int .i64 k]) → (w.alloc (.cells #[.int .i64 k] e)).grownBy w' none → ∃ g', Que w' e B g' v' (xs ++ [k]) ∧ w.grownBy w' (some g) ∧ (g' = g ∨ w.heap.size ≤ g') := by
      intro v' w' ho' hg'
      have ho2 : w'.ownsRow (w.alloc (.cells #[.int .i64 k] e)).heap.size e 1 v' (xs.length + 1) ((xs ++ [k]).map (.int .i64)) := by rw [List.map_append]; exact ho'
      obtain ⟨g', hq'⟩ := que_of_own ho2 hlx.symm (by omega)
      have hbase := hq'.base
      rw [World.size_alloc] at hbase
      have hq2 := hq'.mono (B' := B) (by rw [World.size_alloc]; omega)
      refine ⟨g', hq2, ⟨hg'.os, hg'.tape, hg'.output, by have := hg'.size; rw [World.size_alloc] at this; omega, fun k' hk' _ => ?_⟩, .inr (by omega)⟩
      exact (hg'.block k' (by rw [World.size_alloc]; omega) (by simp)).trans (Below.heap_alloc w _ k' hk')
    have hgrow : cap < xs.length + 1 := by omega
    rcases Nat.eq_zero_or_pos cap with h0 | h0
    · subst h0
      have hx0 : xs = [] := List.eq_nil_of_length_eq_zero (by omega)
      subst hx0
      cases ao with
      | none =>
        obtain ⟨v', w', hrun, r1, r2, _⟩ := run_append_own (P := P) (w.alloc (.cells #[.int .i64 k] e)) (w.alloc (.cells #[.int .i64 k] e)).heap.size t o.type e i (.int .i64 0) 1 8 ht hi hz h1 h2 rfl (by decide) (.slice none 0 0) 0 [] (World.ownsRow_nil _ _ e 1) ⟨w.heap.size, 0, none⟩ 1 1 [.int .i64 k] rfl hcell hone (by unfold maxLen; omega) (by omega) (Nat.le_refl _)
        obtain ⟨g', hx1, hx2, hx3⟩ := hfin v' w' (by simpa using r1) (by simpa [Value.ownBlock] using r2)
        exact ⟨v', g', w', hrun, hx1, hx2, hx3⟩
      | some a' =>
        obtain ⟨v', w', hrun, r1, r2⟩ := run_append_arg_grows (P := P) (w.alloc (.cells #[.int .i64 k] e)) t o.type e i (.int .i64 0) 1 8 ht hi hz h1 h2 rfl (by decide) a' 0 0 [] (by simp) (by intro _ _ h'; simp at h') ⟨w.heap.size, 0, none⟩ 1 1 [.int .i64 k] rfl hcell (by omega) (by unfold maxLen; omega) (by omega)
        obtain ⟨g', hx1, hx2, hx3⟩ := hfin v' w' (by simpa using r1) r2
        exact ⟨v', g', w', hrun, hx1, hx2, hx3⟩
    · obtain ⟨rfl, c1, c2, c3⟩ := q4 h0
      have hgl : g < w.heap.size := (Array.getElem?_eq_some_iff.1 c1).1
      have c1' : (w.alloc (.cells #[.int .i64 k] e)).heap[g]? = some (.cells cur e (0, 0)) := (Below.heap_alloc w _ g hgl).trans c1
      obtain ⟨v', w', hrun, r1, r2⟩ := run_append_arg_grows (P := P) (w.alloc (.cells #[.int .i64 k] e)) t o.type e i (.int .i64 0) 1 8 ht hi hz h1 h2 rfl (by decide) ⟨g, off, none⟩ xs.length cap (xs.map (.int .i64)) (by simp)
        (by
          intro j u hj
          have hjl : j < xs.length := by have := (List.getElem?_eq_some_iff.1 hj).1; simpa using this
          have hadd : (⟨g, off, none⟩ : Addr).add j = ⟨g, off + j, none⟩ := by unfold Addr.add; split <;> simp_all
          rw [hadd, cell_of_row _ g _ _ e (0, 0) c1', c3 j hjl, ← hj, List.getElem?_map, List.getElem?_eq_getElem hjl]; rfl)
        ⟨w.heap.size, 0, none⟩ 1 1 [.int .i64 k] rfl hcell (by omega) (by unfold maxLen; omega) (by omega)
      obtain ⟨g', hx1, hx2, hx3⟩ := hfin v' w' r1 r2
      exact ⟨v', g', w', hrun, hx1, hx2, hx3⟩
theorem app_que {rest : List Oper} (hgd : o.guard = none) (s x : Operand) (t : TypeId)
    (ho : o.op = .call { callee := .builtin .append, args := #[s, x], argTypes := #[t, t] })
    (e : TypeId) (ht : P.underlying t = some (.slice e)) (hinfo : (P.info? e).map (fun i => (i.zero, i.size, i.bytes)) = some (some (.int .i64 0), 1, 8))
    {B g : Nat} {v : Value} {xs : List Int} (k : Int) (hq : Que w e B g v xs) (hB : B ≤ w.heap.size)
    (hs : a.eval s = v) (hx : a.eval x = .slice (some ⟨w.heap.size, 0, none⟩) 1 1) (hn : xs.length ≤ 1000000)
    (h : ∀ v' g' w', Hid (Que w' e B g' v' (xs ++ [k])) → Hid (w.grownBy w' (some g)) → Hid (∀ w0, Below B w0 w → Below B w0 w') → Hid (g' = g ∨ w.heap.size ≤ g') → wpList P ops Q rest (a.put o.dst v') w') :
    wpList P ops Q (o :: rest) a (w.alloc (.cells #[.int .i64 k] e)) :=
  wpList_plain hgd fun _ hK => wp_app_que s x t ho e ht hinfo k hq hB hs hx hn fun v' g' w' h1 h2 h3 h4 => hK _ _ (h v' g' w' h1 h2 h3 h4)
end
end Go.Proofs.YtdljgjlkfihjdaaGreatDoor
