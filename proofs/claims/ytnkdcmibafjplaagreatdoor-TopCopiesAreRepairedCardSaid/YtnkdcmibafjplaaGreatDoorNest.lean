/-
  Rows whose elements end in a slice that the call owns too (a slice of structs, the last field of each a slice that grows); append of a slice that reads as data. Over any program.
-/
import Derived.Test.YtnkdcmibafjplaaGreatDoorBase
namespace Go.Proofs.YtnkdcmibafjplaaGreatDoor
open Go.RowKit
set_option linter.unusedVariables false

/-- 'append(v, x...)': v a row of the call's own, x whatever reads as a slice of one-cell elements. -/
theorem run_app_any {P : Program} {w : World} {α : Type} {R : Rp α} (hR : R.sz = 1) (t ty e : TypeId) (z : Value) (bytes : Nat) (ht : P.underlying t = some (.slice e)) (hinfo : (P.info? e).map (fun i => (i.zero, i.size, i.bytes)) = some (some z, 1, bytes)) (hzs : z.cells.size = 1)
    {B : Nat} {v : Value} {n : Nat} {xs : List Value} (hown : w.ownsRow B e 1 v n xs) (hB : B ≤ w.heap.size) {S : Nat → Prop} {A : Option Addr} {m c : Nat} {l : List α} (f : α → Value) (hx : (Rp.sl R).ok w S [.slice A m c] l)
    (hf : ∀ a ∈ l, ∀ us, R.ok w S us a → us = [f a]) (hn : n + l.length ≤ maxLen) (hbytes : (n + l.length) * bytes ≤ 140737488355328) :
    ∃ v' w', (Builtin.append_ #[t, t] ty #[v, .slice A m c]).run P w = .ok v' w' ∧ w'.ownsRow B e 1 v' (n + l.length) (xs ++ l.map f) ∧ w.grownBy w' v.ownBlock ∧ (v'.ownBlock = v.ownBlock ∨ v'.ownBlock = some w.heap.size) := by
  obtain ⟨i, hi, hz, h1, h2⟩ := info_parts hinfo
  obtain ⟨A', c', e0, hl, hm, h0, h3⟩ := hx
  injection e0 with e0; injection e0 with e1 e2 e3
  subst e1 e2 e3
  cases A with
  | none =>
    have hc0 := h0 rfl
    have hl0 : l = [] := List.eq_nil_of_length_eq_zero (by omega)
    subst hl0
    subst hc0
    refine ⟨v, w, ?_, by simpa using hown, World.grownBy.refl w _, .inl rfl⟩
    rcases hown.2 with ⟨rfl, rfl⟩ | ⟨g, cap, cur, rfl, _, _, hnc, _⟩
    · simp [Builtin.append_, run_underlying ht, sizeOf, typeInfo, hi, Builtin.lenOf, Builtin.firstCells]
    · simp [Builtin.append_, run_underlying ht, sizeOf, typeInfo, hi, Builtin.lenOf, Builtin.firstCells, hnc, storeCells]
  | some ad =>
    have hcells : ∀ j u, (l.map f)[j]? = some u → w.cell? (ad.add j) = some u := by
      intro j u hj
      rw [List.getElem?_map] at hj
      obtain ⟨a, ha, rfl⟩ := Option.map_eq_some_iff.1 hj
      obtain ⟨hjl, rfl⟩ := List.getElem?_eq_some_iff.1 ha
      obtain ⟨ad', us, e1, _, ho, hc⟩ := h3 j hjl
      injection e1 with e1
      subst e1
      have := hf _ (List.getElem_mem hjl) us ho
      subst this
      have := hc 0 _ rfl
      rw [hR, Nat.mul_one, Nat.add_zero] at this
      exact this
    have hone : ∀ u ∈ l.map f, u.oneCell' = true := by
      intro u hu
      obtain ⟨a, ha, rfl⟩ := List.mem_map.1 hu
      obtain ⟨k, hk, rfl⟩ := List.getElem_of_mem ha
      obtain ⟨ad', us, e1, _, ho, hc⟩ := h3 k hk
      have e := hf _ ha us ho
      subst e
      exact R.one ho _ (List.mem_singleton.2 rfl)
    obtain ⟨v', w', hrun, h4, h5, _, h6⟩ := run_append_own_at (P := P) w B t ty e i z 1 bytes ht hi hz h1 h2 hzs (by decide) v n xs hown ad l.length c (l.map f) (by simp) hcells hone hn hbytes hB
    exact ⟨v', w', hrun, h4, h5, h6⟩

section
variable {P : Program} {w : World} {α : Type} {R : Rp α} {ops : Array Oper} {o : Oper} {a : Act} {Q : Exit → Act → World → Prop}
theorem wp_app_any {K : Act → World → Prop} (hR : R.sz = 1) (s x : Operand) (t : TypeId) (ho : o.op = .call { callee := .builtin .append, args := #[s, x], argTypes := #[t, t] })
    (e : TypeId) (z : Value) (bytes : Nat) (ht : P.underlying t = some (.slice e)) (hinfo : (P.info? e).map (fun i => (i.zero, i.size, i.bytes)) = some (some z, 1, bytes)) (hzs : z.cells.size = 1)
    {B : Nat} {v : Value} {n : Nat} {xs : List Value} (hs : a.eval s = v) (hown : w.ownsRow B e 1 v n xs) (hB : B ≤ w.heap.size) {S : Nat → Prop} {A : Option Addr} {m c : Nat} {l : List α} (f : α → Value) (hxe : a.eval x = .slice A m c) (hx : (Rp.sl R).ok w S [.slice A m c] l)
    (hf : ∀ a ∈ l, ∀ us, R.ok w S us a → us = [f a]) (hn : n + l.length ≤ maxLen) (hbytes : (n + l.length) * bytes ≤ 140737488355328)
    (h : ∀ A' c' w', Hid (w'.ownsRow B e 1 (.slice A' (n + l.length) c') (n + l.length) (xs ++ l.map f)) → Hid (w.grownBy w' v.ownBlock) → Hid (∀ w0, Below B w0 w → Below B w0 w') → Hid ((Value.slice A' (n + l.length) c').ownBlock = v.ownBlock ∨ (Value.slice A' (n + l.length) c').ownBlock = some w.heap.size) →
      K (a.put o.dst (.slice A' (n + l.length) c')) w') : o.wp P a w K Q := by
  obtain ⟨v', w', hrun, h2, h3, h4⟩ := run_app_any (P := P) hR t o.type e z bytes ht hinfo hzs hown hB f hx hf hn hbytes
  obtain ⟨A', c', rfl, _⟩ := own_form h2
  unfold Oper.wp execOp
  simp only [ho, resolve, invoke, builtin, Sem.run_bind, Sem.run_pure, Result.andThen_ok, List.map_toArray, List.map_cons, List.map_nil, hs, hxe, hrun]
  exact h A' c' w' h2 h3 (fun w0 hb => hb.grown h3 hB (fun k hk => (hown.lt k hk).1)) h4
theorem app_any {rest : List Oper} (hgd : o.guard = none) (hR : R.sz = 1) (s x : Operand) (t : TypeId) (ho : o.op = .call { callee := .builtin .append, args := #[s, x], argTypes := #[t, t] })
    (e : TypeId) (z : Value) (bytes : Nat) (ht : P.underlying t = some (.slice e)) (hinfo : (P.info? e).map (fun i => (i.zero, i.size, i.bytes)) = some (some z, 1, bytes)) (hzs : z.cells.size = 1)
    {B : Nat} {v : Value} {n : Nat} {xs : List Value} (hs : a.eval s = v) (hown : w.ownsRow B e 1 v n xs) (hB : B ≤ w.heap.size) {S : Nat → Prop} {A : Option Addr} {m c : Nat} {l : List α} (f : α → Value) (hxe : a.eval x = .slice A m c) (hx : (Rp.sl R).ok w S [.slice A m c] l)
    (hf : ∀ a ∈ l, ∀ us, R.ok w S us a → us = [f a]) (hn : n + l.length ≤ maxLen) (hbytes : (n + l.length) * bytes ≤ 140737488355328)
    (h : ∀ A' c' w', Hid (w'.ownsRow B e 1 (.slice A' (n + l.length) c') (n + l.length) (xs ++ l.map f)) → Hid (w.grownBy w' v.ownBlock) → Hid (∀ w0, Below B w0 w → Below B w0 w') → Hid ((Value.slice A' (n + l.length) c').ownBlock = v.ownBlock ∨ (Value.slice A' (n + l.length) c').ownBlock = some w.heap.size) →
      wpList P ops Q rest (a.put o.dst (.slice A' (n + l.length) c')) w') : wpList P ops Q (o :: rest) a w :=
  wpList_plain hgd fun _ hK => wp_app_any hR s x t ho e z bytes ht hinfo hzs hs hown hB f hxe hx hf hn hbytes fun A' c' w' h1 h2 h3 h4 => hK _ _ (h A' c' w' h1 h2 h3 h4)
theorem step_app_any {K : Act → World → Prop} {E : Prop} (hgd : o.guard = none) (hR : R.sz = 1) (s x : Operand) (t : TypeId) (ho : o.op = .call { callee := .builtin .append, args := #[s, x], argTypes := #[t, t] })
    (e : TypeId) (z : Value) (bytes : Nat) (ht : P.underlying t = some (.slice e)) (hinfo : (P.info? e).map (fun i => (i.zero, i.size, i.bytes)) = some (some z, 1, bytes)) (hzs : z.cells.size = 1)
    {B : Nat} {v : Value} {n : Nat} {xs : List Value} (hs : a.eval s = v) (hown : w.ownsRow B e 1 v n xs) (hB : B ≤ w.heap.size) {S : Nat → Prop} {A : Option Addr} {m c : Nat} {l : List α} (f : α → Value) (hxe : a.eval x = .slice A m c) (hx : (Rp.sl R).ok w S [.slice A m c] l)
    (hf : ∀ a ∈ l, ∀ us, R.ok w S us a → us = [f a]) (hn : n + l.length ≤ maxLen) (hbytes : (n + l.length) * bytes ≤ 140737488355328)
    (h : ∀ A' c' w', Hid (w'.ownsRow B e 1 (.slice A' (n + l.length) c') (n + l.length) (xs ++ l.map f)) → Hid (w.grownBy w' v.ownBlock) → Hid (∀ w0, Below B w0 w → Below B w0 w') → Hid ((Value.slice A' (n + l.length) c').ownBlock = v.ownBlock ∨ (Value.slice A' (n + l.length) c').ownBlock = some w.heap.size) →
      K (a.put o.dst (.slice A' (n + l.length) c')) w') : if Region.wanted o (yielded ops a.tmps) = true then Oper.wp P o a w K Q else E := by
  have hw : Region.wanted o (yielded ops a.tmps) = true := by simp [Region.wanted, hgd]
  rw [if_pos hw]
  exact wp_app_any hR s x t ho e z bytes ht hinfo hzs hs hown hB f hxe hx hf hn hbytes h
end

theorem u8_one {w : World} {S : Nat → Prop} {l : List UInt8} : ∀ a ∈ l, ∀ us, Rp.u8.ok w S us a → us = [Value.int .u8 a.toNat] := fun a _ us h => h
theorem str_one {w : World} {S : Nat → Prop} {l : List ByteArray} : ∀ a ∈ l, ∀ us, Rp.str.ok w S us a → us = [Value.string a] := fun a _ us h => h.1

/-- A literal row in a new block is owned. -/
theorem own_lit {w : World} {B : Nat} (hB : B ≤ w.heap.size) (e : TypeId) (us : List Value) (hm : us.length ≤ maxLen) :
    (w.alloc (.cells us.toArray e)).ownsRow B e 1 (.slice (some ⟨w.heap.size, 0, none⟩) us.length us.length) us.length us :=
  ⟨by simp, .inr ⟨w.heap.size, us.length, us.toArray, rfl, hB, heap_alloc_new w _, Nat.le_refl _, hm, by simp, by simp⟩⟩

section
variable {α : Type} {hd inn : α → List Value} {sz : Nat} {E E2 : TypeId} {B : Nat}
/-- The row v holds the elements of l, the last cell of each a slice that owns 'inn' of it; no two of these lie in one block. -/
def Nest (hd inn : α → List Value) (sz : Nat) (E E2 : TypeId) (B : Nat) (w : World) (v : Value) (l : List α) : Prop :=
  ∃ vs : List Value, vs.length = l.length ∧ w.ownsRow B E sz v l.length ((l.zip vs).flatMap fun p => hd p.1 ++ [p.2]) ∧
    (∀ (i : Nat) (h : i < l.length) (h' : i < vs.length), w.ownsRow B E2 1 vs[i] (inn l[i]).length (inn l[i])) ∧
    (∀ (i j : Nat) (hi : i < vs.length) (hj : j < vs.length), i ≠ j → ∀ g, vs[i].ownBlock = some g → vs[j].ownBlock ≠ some g)

theorem Nest.nil (w : World) : Nest hd inn sz E E2 B w (.slice none 0 0) [] :=
  ⟨[], rfl, World.ownsRow_nil w B E sz, fun i h => absurd h (by simp), fun i j h => absurd h (by simp)⟩
theorem own_cells {w : World} {e : TypeId} {size : Nat} {v : Value} {n : Nat} {xs : List Value} {g : Nat} (h : w.ownsRow B e size v n xs) (hg : v.ownBlock = some g) : ∃ cur, w.heap[g]? = some (.cells cur e (0, 0)) := by
  rcases h.2 with ⟨rfl, _⟩ | ⟨g', cap, cur, rfl, _, hh, _⟩
  · cases hg
  · injection hg with hg; subst hg; exact ⟨cur, hh⟩
theorem own_ne {w : World} {e e' : TypeId} {size size' : Nat} {v v' : Value} {n n' : Nat} {xs xs' : List Value} {B' : Nat} (h : w.ownsRow B e size v n xs) (h' : w.ownsRow B' e' size' v' n' xs') (hne : e ≠ e') {g : Nat} (hg : v.ownBlock = some g) : v'.ownBlock ≠ some g := by
  intro hg'
  obtain ⟨cur, h1⟩ := own_cells h hg
  obtain ⟨cur', h2⟩ := own_cells h' hg'
  rw [h1] at h2
  injection h2 with h2
  injection h2 with _ h2
  exact hne h2
theorem own_same {w w' : World} {e : TypeId} {size : Nat} {v : Value} {n : Nat} {xs : List Value} {S : Nat → Prop} (h : w.ownsRow B e size v n xs) (hs : Same S w w') (hg : ∀ g, v.ownBlock = some g → S g) : w'.ownsRow B e size v n xs := by
  refine ⟨h.1, h.2.imp id ?_⟩
  rintro ⟨g, cap, cur, rfl, hb, hh, rest⟩
  exact ⟨g, cap, cur, rfl, hb, (hs g (hg g rfl)).trans hh, rest⟩
theorem Nest.grown {w w' : World} {v : Value} {l : List α} (h : Nest hd inn sz E E2 B w v l) (hg : w.grownBy w' none) : Nest hd inn sz E E2 B w' v l := by
  obtain ⟨vs, h1, h2, h3, h4⟩ := h
  exact ⟨vs, h1, h2.kept hg (by cases hv : v.ownBlock <;> simp), fun i a b => (h3 i a b).kept hg (by cases hv : vs[i].ownBlock <;> simp), h4⟩
theorem Nest.alloc {w : World} {v : Value} {l : List α} (h : Nest hd inn sz E E2 B w v l) (o : Obj) : Nest hd inn sz E E2 B (w.alloc o) v l := h.grown (World.grownBy_alloc w o none)
theorem Nest.drewN {w : World} {v : Value} {l : List α} (h : Nest hd inn sz E E2 B w v l) (k : Nat) : Nest hd inn sz E E2 B (w.drewN k) v l := h

/-- What stands open for an append of one more element. -/
theorem Nest.open_ (hE : E ≠ E2) {w : World} {v : Value} {l : List α} (h : Nest hd inn sz E E2 B w v l) :
    ∃ xs, w.ownsRow B E sz v l.length xs ∧ ∀ (wA w' : World) (v' : Value) (a : α) (u : Value), w.grownBy wA none → wA.ownsRow B E2 1 u (inn a).length (inn a) → (∀ g, u.ownBlock = some g → w.heap.size ≤ g) →
      wA.grownBy w' v.ownBlock → w'.ownsRow B E sz v' (l.length + 1) (xs ++ (hd a ++ [u])) → Nest hd inn sz E E2 B w' v' (l ++ [a]) := by
  obtain ⟨vs, h1, h2, h3, h4⟩ := h
  refine ⟨_, h2, fun wA w' v' a u hA hu hfresh hw hown => ?_⟩
  have hvA : wA.ownsRow B E sz v l.length _ := h2.kept hA (by cases hv : v.ownBlock <;> simp)
  have keep : ∀ {u' : Value} {n : Nat} {xs : List Value}, wA.ownsRow B E2 1 u' n xs → w'.ownsRow B E2 1 u' n xs := fun {u' n xs} hu' => by
    refine hu'.kept hw ?_
    by_cases hn : u'.ownBlock = none
    · exact .inl hn
    · right
      intro e
      obtain ⟨g, hg⟩ := Option.ne_none_iff_exists'.1 hn
      exact own_ne hvA hu' hE (by rw [← e]; exact hg) hg
  refine ⟨vs ++ [u], by simp [h1], ?_, ?_, ?_⟩
  · rw [List.zip_append h1.symm, List.flatMap_append]
    simpa using hown
  · intro i hi hi'
    by_cases hil : i < l.length
    · have e1 : (l ++ [a])[i] = l[i] := List.getElem_append_left hil
      have e2 : (vs ++ [u])[i] = vs[i]'(by omega) := List.getElem_append_left (by omega)
      rw [e1, e2]
      exact keep ((h3 i hil (by omega)).kept hA (by cases hv : (vs[i]'(by omega)).ownBlock <;> simp))
    · have hie : i = l.length := by simp at hi; omega
      subst hie
      have e1 : (l ++ [a])[l.length] = a := by simp
      have e2 : (vs ++ [u])[l.length] = u := by simp [← h1]
      rw [e1, e2]
      exact keep hu
  · intro i j hi hj hij g hg
    have hlt : ∀ (k : Nat) (hk : k < vs.length) (g : Nat), vs[k].ownBlock = some g → g < w.heap.size := fun k hk g hg => ((h3 k (by omega) hk).lt g hg).2
    by_cases hil : i < vs.length
    · have e2 : (vs ++ [u])[i] = vs[i] := List.getElem_append_left hil
      rw [e2] at hg
      by_cases hjl : j < vs.length
      · have e3 : (vs ++ [u])[j] = vs[j] := List.getElem_append_left hjl
        rw [e3]
        exact h4 i j hil hjl hij g hg
      · have hje : j = vs.length := by simp at hj; omega
        subst hje
        have e3 : (vs ++ [u])[vs.length] = u := by simp
        rw [e3]
        intro e
        have := hfresh g e
        have := hlt i hil g hg
        omega
    · have hie : i = vs.length := by simp at hi; omega
      subst hie
      have e3 : (vs ++ [u])[vs.length] = u := by simp
      rw [e3] at hg
      have hjl : j < vs.length := by simp at hj; omega
      have e2 : (vs ++ [u])[j] = vs[j] := List.getElem_append_left hjl
      rw [e2]
      intro e
      have := hfresh g hg
      have := hlt j hjl g e
      omega
theorem snoc_of_len {α : Type} {l : List α} {n : Nat} (h : l.length = n + 1) : ∃ (m : List α) (a : α), l = m ++ [a] ∧ m.length = n := by
  have hne : l ≠ [] := fun e => by rw [e] at h; simp at h
  refine ⟨l.dropLast, l.getLast hne, (List.dropLast_concat_getLast hne).symm, by rw [List.length_dropLast]; omega⟩

/-- The last element of such a row: what is read of it, and what stands open for a new last slice. -/
theorem Nest.last (hsz : ∀ a, (hd a).length + 1 = sz) (hE : E ≠ E2) {w : World} {v : Value} {l : List α} {a : α} (h : Nest hd inn sz E E2 B w v (l ++ [a])) :
    ∃ (G c : Nat) (u : Value), v = .slice (some ⟨G, 0, none⟩) (l.length + 1) c ∧ B ≤ G ∧ G < w.heap.size ∧ w.ownsRow B E2 1 u (inn a).length (inn a) ∧ u.ownBlock ≠ some G ∧
      (∀ (j : Nat) (x : Value), (hd a)[j]? = some x → w.cell? ⟨G, l.length * sz + j, none⟩ = some x) ∧ w.cell? ⟨G, l.length * sz + (sz - 1), none⟩ = some u ∧
      (∀ w1 : World, w1.heap[G]? = w.heap[G]? → ∀ i, w1.frozen? ⟨G, i, none⟩ = false) ∧
      ∀ (w1 : World) (u' : Value) (a' : α), hd a' = hd a → w1.ownsRow B E2 1 u' (inn a').length (inn a') → w.grownBy w1 u.ownBlock → (u'.ownBlock = u.ownBlock ∨ ∃ g, u'.ownBlock = some g ∧ w.heap.size ≤ g) →
        Nest hd inn sz E E2 B (w1.setCell ⟨G, l.length * sz + (sz - 1), none⟩ u') v (l ++ [a']) := by
  obtain ⟨vs, h1, h2, h3, h4⟩ := h
  rw [List.length_append, List.length_singleton] at h1
  obtain ⟨us, u, rfl, hus⟩ := snoc_of_len h1
  have hsz0 : ∀ p : α × Value, (hd p.1 ++ [p.2]).length = sz := fun p => by rw [List.length_append, List.length_singleton]; exact hsz p.1
  have hrow : ((l ++ [a]).zip (us ++ [u])).flatMap (fun p => hd p.1 ++ [p.2]) = (l.zip us).flatMap (fun p => hd p.1 ++ [p.2]) ++ (hd a ++ [u]) := by
    rw [List.zip_append hus.symm, List.flatMap_append]; simp
  have hflen : ((l.zip us).flatMap (fun p => hd p.1 ++ [p.2])).length = l.length * sz := by
    rw [flat_len hsz0, List.length_zip, hus, Nat.min_self]
  rw [hrow, List.length_append, List.length_singleton] at h2
  have hu : w.ownsRow B E2 1 u (inn a).length (inn a) := by
    have := h3 l.length (by simp) (by simp [hus])
    have e1 : (l ++ [a])[l.length] = a := by simp
    have e2 : (us ++ [u])[l.length] = u := by simp [← hus]
    rwa [e1, e2] at this
  have hhd := hsz a
  have hform : ∃ G c, v = .slice (some ⟨G, 0, none⟩) (l.length + 1) c := by
    rcases h2.2 with ⟨_, hn⟩ | ⟨G, c, cur, rfl, _⟩
    · omega
    · exact ⟨G, c, rfl⟩
  obtain ⟨G, c, rfl⟩ := hform
  have hGlt := h2.lt G rfl
  have hat : ∀ (j : Nat) (x : Value), (hd a ++ [u])[j]? = some x → w.cell? ⟨G, l.length * sz + j, none⟩ = some x := by
    intro j x hj
    have hjl : j < sz := by have := (List.getElem?_eq_some_iff.1 hj).1; rw [List.length_append, List.length_singleton] at this; omega
    rw [h2.cellAt _ (by rw [Nat.add_mul]; omega), List.getElem?_append_right (by omega), hflen, Nat.add_sub_cancel_left]
    exact hj
  have hneu : u.ownBlock ≠ some G := fun e => own_ne hu h2 (fun e => hE e.symm) e rfl
  refine ⟨G, c, u, rfl, hGlt.1, hGlt.2, hu, hneu, fun j x hj => hat j x ?_, hat _ _ ?_, fun w1 hw1 i => ?_, fun w1 u' a' hhd' hu' hg hloc => ?_⟩
  · have hjl := (List.getElem?_eq_some_iff.1 hj).1
    rw [List.getElem?_append_left hjl]; exact hj
  · rw [List.getElem?_append_right (by omega), show sz - 1 - (hd a).length = 0 by omega]; rfl
  · rw [World.frozen?_of_block (w := w) hw1]; exact h2.frozenAt i
  · have h2' : w1.ownsRow B E sz (.slice (some ⟨G, 0, none⟩) (l.length + 1) c) (l.length + 1) _ := h2.kept hg (.inr (fun e => hneu e.symm))
    have hst := (h2'.stored (l.length * sz + (sz - 1)) u').1
    have hne' : u'.ownBlock ≠ some G := by
      rcases hloc with e | ⟨g, e, hge⟩
      · rw [e]; exact hneu
      · rw [e]; intro e2; injection e2 with e2; omega
    have keep : ∀ {u1 : Value} {n : Nat} {xs : List Value}, w1.ownsRow B E2 1 u1 n xs → (w1.setCell ⟨G, l.length * sz + (sz - 1), none⟩ u').ownsRow B E2 1 u1 n xs := fun {u1 n xs} hu1 =>
      ownsRow_setCell_other (a := ⟨G, l.length * sz + (sz - 1), none⟩) hu1 (fun e => own_ne hu1 h2' (fun e => hE e.symm) e rfl) _
    have hlast : ∀ (i : Nat) (hi : i < us.length), us[i].ownBlock ≠ u.ownBlock ∨ us[i].ownBlock = none := fun i hi => by
      by_cases hn : us[i].ownBlock = none
      · exact .inr hn
      · left
        obtain ⟨g, hg⟩ := Option.ne_none_iff_exists'.1 hn
        have := h4 i us.length (by simp; omega) (by simp) (by omega) g (by rw [List.getElem_append_left hi]; exact hg)
        rw [List.getElem_append_right (Nat.le_refl _)] at this
        simp at this
        rw [hg]
        exact fun e => this e.symm
    have hold : ∀ (i : Nat) (hi : i < us.length) (g : Nat), us[i].ownBlock = some g → g < w.heap.size := fun i hi g hg => by
      have := h3 i (by simp; omega) (by simp; omega)
      rw [List.getElem_append_left hi] at this
      exact (this.lt g hg).2
    refine ⟨us ++ [u'], by simp [hus], ?_, ?_, ?_⟩
    · rw [List.zip_append hus.symm, List.flatMap_append, List.length_append, List.length_singleton]
      have e : ((l.zip us).flatMap (fun p => hd p.1 ++ [p.2]) ++ (hd a ++ [u])).set (l.length * sz + (sz - 1)) u' = (l.zip us).flatMap (fun p => hd p.1 ++ [p.2]) ++ ([a'].zip [u']).flatMap (fun p => hd p.1 ++ [p.2]) := by
        rw [List.set_append_right _ _ (by omega), hflen, Nat.add_sub_cancel_left, List.set_append_right _ _ (by omega), show sz - 1 - (hd a).length = 0 by omega]
        simp [hhd']
      rw [← e]
      exact hst
    · intro i hi hi'
      by_cases hil : i < l.length
      · have e1 : (l ++ [a'])[i] = l[i] := List.getElem_append_left hil
        have e2 : (us ++ [u'])[i] = us[i]'(by omega) := List.getElem_append_left (by omega)
        rw [e1, e2]
        have := h3 i (by simp; omega) (by simp; omega)
        rw [List.getElem_append_left hil, List.getElem_append_left (by omega)] at this
        exact keep (this.kept hg ((hlast i (by omega)).symm))
      · have hie : i = l.length := by simp at hi; omega
        subst hie
        have e1 : (l ++ [a'])[l.length] = a' := by simp
        have e2 : (us ++ [u'])[l.length] = u' := by simp [← hus]
        rw [e1, e2]
        exact keep hu'
    · intro i j hi hj hij g hgi
      by_cases hil : i < us.length
      · have e2 : (us ++ [u'])[i] = us[i] := List.getElem_append_left hil
        rw [e2] at hgi
        by_cases hjl : j < us.length
        · have e3 : (us ++ [u'])[j] = us[j] := List.getElem_append_left hjl
          rw [e3]
          have := h4 i j (by simp; omega) (by simp; omega) hij g (by rw [List.getElem_append_left hil]; exact hgi)
          rwa [List.getElem_append_left hjl] at this
        · have hje : j = us.length := by simp at hj; omega
          subst hje
          have e3 : (us ++ [u'])[us.length] = u' := by simp
          rw [e3]
          intro e
          rcases hloc with e1 | ⟨g', e1, hge⟩
          · rcases hlast i hil with h5 | h5
            · exact h5 (by rw [hgi, ← e, e1])
            · rw [hgi] at h5; cases h5
          · rw [e1] at e; injection e with e
            have := hold i hil g hgi
            omega
      · have hie : i = us.length := by simp at hi; omega
        subst hie
        have e3 : (us ++ [u'])[us.length] = u' := by simp
        rw [e3] at hgi
        have hjl : j < us.length := by simp at hj; omega
        have e2 : (us ++ [u'])[j] = us[j] := List.getElem_append_left hjl
        rw [e2]
        intro e
        rcases hloc with e1 | ⟨g', e1, hge⟩
        · rcases hlast j hjl with h5 | h5
          · exact h5 (by rw [e, ← hgi, e1])
          · rw [e] at h5; cases h5
        · rw [e1] at hgi; injection hgi with hgi
          have := hold j hjl g e
          omega

theorem Nest.rp {R : Rp α} (hsz : ∀ a, (hd a).length + 1 = sz) (hR : R.sz = sz) {w : World} {S : Nat → Prop} {v : Value} {l : List α} (h : Nest hd inn sz E E2 B w v l) (hS : ∀ g, B ≤ g → g < w.heap.size → S g)
    (hel : ∀ a ∈ l, ∀ u, w.ownsRow B E2 1 u (inn a).length (inn a) → R.ok w S (hd a ++ [u]) a) : (Rp.sl R).ok w S [v] l := by
  obtain ⟨vs, h1, h2, h3, h4⟩ := h
  subst hR
  have hsz0 : ∀ p : α × Value, (hd p.1 ++ [p.2]).length = R.sz := fun p => by rw [List.length_append, List.length_singleton]; exact hsz p.1
  by_cases hl : l = []
  · subst hl
    rcases h2.2 with ⟨rfl, _⟩ | ⟨G, c, cur, rfl, hb, hh, _, hm, _⟩
    · exact Rp.sl_nil _ _ _
    · exact ⟨_, c, rfl, Nat.zero_le _, hm, by simp, fun k hk => absurd hk (by simp)⟩
  · obtain ⟨a0, l0, rfl⟩ := List.exists_cons_of_ne_nil hl
    refine Rp.of_own (by have := hsz a0; omega) h2 (fun g hg => hS g (h2.lt g hg).1 (h2.lt g hg).2) fun k hk => ?_
    have hz : k < ((a0 :: l0).zip vs).length := by rw [List.length_zip, h1]; omega
    rw [flat_at hsz0 _ k hz, List.getElem_zip]
    exact hel _ (List.getElem_mem hk) _ (h3 k hk (by omega))
end
end Go.Proofs.YtnkdcmibafjplaaGreatDoor
