/-
  What an argument that can be read as data gives to the walk, with its bulk: the statements that are narrowed to small inputs.
-/
import Derived.Test.YtgfacedfndcgdaaGreatDoorRows
import Derived.Test.YtgfacedfndcgdaaGreatDoorOpen
namespace Go.Proofs.YtgfacedfndcgdaaGreatDoor
open Go.RowKit Go.ChangeShapes Go.WideShapes Go.ChangeAt

def OpensB (P : Program) (t : TypeId) {α : Type} (R : Rp α) (B : α → Nat) : Prop :=
  ∀ (H : Type) (enc : TypeId × Value → H) (w : World) (fuel : Nat) (cs : List Value) (x : DataW H × List MemPlace), DataW.trod enc P w 0 (fun _ => true) true fuel t cs = some x →
    ∃ a, R.ok w (· < w.heap.size) cs a ∧ ((∀ n ∈ DataW.weights P t x.1, n ≤ reachBytes) → R.fits a) ∧ B a ≤ Rows.uptoBulk x.1

section
variable {P : Program} {t : TypeId}
theorem OpensB.opens {α : Type} {R : Rp α} {B : α → Nat} (h : OpensB P t R B) : Opens P t R := fun H enc w fuel cs x hx => by
  obtain ⟨a, h1, h2, _⟩ := h H enc w fuel cs x hx
  exact ⟨a, h1, h2⟩
theorem Opens.bulk {α : Type} {R : Rp α} (h : Opens P t R) : OpensB P t R (fun _ => 0) := fun H enc w fuel cs x hx => by
  obtain ⟨a, h1, h2⟩ := h H enc w fuel cs x hx
  exact ⟨a, h1, h2, Nat.zero_le _⟩
theorem opensB_str (ht : P.underlying t = some .string) : OpensB P t Rp.str (fun s => s.size) := by
  intro H enc w fuel cs x h
  obtain ⟨s, rfl, rfl, hs⟩ := DataW.trod_string ht h
  refine ⟨s, ⟨rfl, hs⟩, fun hf => ?_, ?_⟩
  · exact Nat.le_trans (hf s.data.toList.length (List.mem_singleton.2 rfl)) reach_le
  · show s.data.toList.length ≤ s.data.toList.length + 1
    omega
theorem bulkAll_le {H : Type} {α : Type} {B : α → Nat} : ∀ (l : List (DataW H)) (m : List α) (hl : m.length = l.length), (∀ (i : Nat) (h : i < m.length), B m[i] ≤ Rows.uptoBulk (l[i]'(by omega))) → (m.map B).sum ≤ Rows.uptoBulkAll l
  | [], [], _, _ => by simp
  | d :: l, a :: m, hl, h => by
    have h0 := h 0 (by simp)
    have ih := bulkAll_le (B := B) l m (by simpa using hl) (fun i hi => h (i + 1) (by simp; omega))
    simp only [List.getElem_cons_zero] at h0
    rw [List.map_cons, List.sum_cons, Rows.uptoBulkAll]; omega
theorem opensB_sl {e : TypeId} {α : Type} {R : Rp α} {B : α → Nat} (ht : P.underlying t = some (.slice e)) (hc : P.cellsOf e = R.sz) (hsz : 0 < R.sz) (hb : 1 ≤ P.bytesOf e) (ho : OpensB P e R B) : OpensB P t (Rp.sl R) (fun l => (l.map B).sum) := by
  intro H enc w fuel cs x h
  rcases DataW.trod_slice ht h with ⟨rfl, rfl⟩ | ⟨a, len, cap, elems, rest, n, _, rfl, rfl, _, hl, hm, hlen, hel, _, _⟩
  · exact ⟨[], Rp.sl_nil _ _ _, fun _ => ⟨by simp, fun a ha => by cases ha⟩, by simp⟩
  · have key : ∀ i : Fin len, ∃ b : α, a.block < w.heap.size ∧ (∃ us, R.ok w (· < w.heap.size) us b ∧ (∀ j u, us[j]? = some u → w.cell? (a.add (i.1 * R.sz + j)) = some u)) ∧
        ((∀ n ∈ DataW.weights P e (elems[i.1]'(by omega)).1, n ≤ reachBytes) → R.fits b) ∧ B b ≤ Rows.uptoBulk (elems[i.1]'(by omega)).1 := by
      intro ⟨i, hi⟩
      have h1 := hel i hi
      rw [List.getElem?_eq_getElem (by omega), Option.bind_eq_some_iff] at h1
      obtain ⟨us, h2, h3⟩ := h1
      obtain ⟨b, hok, hfit, hbk⟩ := ho H enc w n us _ h3
      obtain ⟨_, hul, hcell⟩ := World.cells?_some h2
      rw [hc] at hul hcell
      have hc' : ∀ j u, us[j]? = some u → w.cell? (a.add (i * R.sz + j)) = some u := by
        intro j u hj
        have hjl : j < R.sz := by rw [← hul]; exact (List.getElem?_eq_some_iff.1 hj).1
        rw [← hj, ← hcell j hjl, add_add]
      have h0 := hc' 0 (us[0]'(by omega)) (List.getElem?_eq_getElem _)
      have hblk := World.block_lt_of_cell? w _ h0
      rw [add_block] at hblk
      exact ⟨b, hblk, ⟨us, hok, hc'⟩, hfit, hbk⟩
    obtain ⟨f, hf⟩ := Classical.axiomOfChoice key
    refine ⟨List.ofFn f, ⟨some a, cap, by rw [List.length_ofFn], by rw [List.length_ofFn]; exact hl, hm, by simp, fun k hk => ?_⟩, fun hw => ⟨?_, fun b hb' => ?_⟩, ?_⟩
    · rw [List.length_ofFn] at hk
      obtain ⟨h1, ⟨us, h2, h3⟩, _⟩ := hf ⟨k, hk⟩
      exact ⟨a, us, rfl, h1, by rw [List.getElem_ofFn]; exact h2, h3⟩
    · have := hw (((elems.map (·.1)).length + (rest.map (·.1)).length) * P.bytesOf e) (by simp only [DataW.weights, ht]; exact List.mem_cons_self ..)
      rw [List.length_ofFn]
      have h1 : len ≤ ((elems.map (·.1)).length + (rest.map (·.1)).length) * P.bytesOf e := by
        refine Nat.le_trans ?_ (Nat.le_mul_of_pos_right _ hb)
        simp only [List.length_map]; omega
      exact Nat.le_trans (Nat.le_trans h1 this) reach_le
    · rw [List.mem_ofFn] at hb'
      obtain ⟨i, rfl⟩ := hb'
      obtain ⟨_, _, hfit, _⟩ := hf i
      refine hfit fun n hn => hw n ?_
      simp only [DataW.weights, ht]
      exact List.mem_cons_of_mem _ (List.mem_append_left _ (weightsAll_mem (List.mem_map.2 ⟨_, List.getElem_mem (by omega), rfl⟩) hn))
    · show ((List.ofFn f).map B).sum ≤ Rows.uptoBulkAll (elems.map (·.1)) + Rows.uptoBulkAll (rest.map (·.1)) + 1
      have := bulkAll_le (B := B) (elems.map (·.1)) (List.ofFn f) (by rw [List.length_ofFn, List.length_map]; omega) (fun i hi => by
        rw [List.length_ofFn] at hi
        rw [List.getElem_ofFn, List.getElem_map]
        exact (hf ⟨i, hi⟩).2.2.2)
      omega
/-- The fields of a struct from place 'base' on. -/
def OpensFB (P : Program) (fs : List Field) (base : Nat) {α : Type} (R : Rp α) (B : α → Nat) : Prop :=
  ∀ (H : Type) (enc : TypeId × Value → H) (w : World) (n : Nat) (cs : List Value) (xs : List (DataW H × List MemPlace)), cs.length = base + R.sz → xs.length = fs.length →
    (∀ (i : Nat) (f : Field), fs[i]? = some f → DataW.trod enc P w 0 (fun _ => true) true n f.type ((cs.drop f.offset).take (P.cellsOf f.type)) = xs[i]?) →
    ∃ a, R.ok w (· < w.heap.size) (cs.drop base) a ∧ ((∀ n ∈ DataW.weightsEach P (fs.map (·.type)) (xs.map (·.1)), n ≤ reachBytes) → R.fits a) ∧ B a ≤ Rows.uptoBulkAll (xs.map (·.1))

theorem opensFB_one {f : Field} {base : Nat} {α : Type} {R : Rp α} {B : α → Nat} (hoff : f.offset = base) (hc : P.cellsOf f.type = R.sz) (ho : OpensB P f.type R B) : OpensFB P [f] base R B := by
  intro H enc w n cs xs hl hx hh
  obtain ⟨x, rfl⟩ := List.length_eq_one_iff.1 hx
  have h := hh 0 f rfl
  rw [hoff, hc, List.take_of_length_le (by rw [List.length_drop]; omega)] at h
  obtain ⟨a, h1, h2, h3⟩ := ho H enc w n _ x h
  exact ⟨a, h1, fun hw => h2 fun n hn => hw n (by simp only [List.map_cons, List.map_nil, DataW.weightsEach, List.append_nil]; exact hn), by simp only [List.map_cons, List.map_nil, Rows.uptoBulkAll]; omega⟩
theorem opensFB_cons {f : Field} {fs : List Field} {base : Nat} {α β : Type} {R : Rp α} {T : Rp β} {B : α → Nat} {C : β → Nat} (hoff : f.offset = base) (hc : P.cellsOf f.type = R.sz) {D : α × β → Nat} (ho : OpensB P f.type R B) (hr : OpensFB P fs (base + R.sz) T C) (hD : ∀ a b, D (a, b) ≤ B a + C b) :
    OpensFB P (f :: fs) base (Rp.pair R T) D := by
  intro H enc w n cs xs hl hx hh
  match xs, hx with
  | x :: xs, hx =>
    have hl' : cs.length = base + (R.sz + T.sz) := hl
    have h := hh 0 f rfl
    rw [hoff, hc] at h
    obtain ⟨a, h1, h2, h5⟩ := ho H enc w n _ x h
    obtain ⟨b, h3, h4, h6⟩ := hr H enc w n cs xs (by omega) (by simpa using hx) (fun i f hf => hh (i + 1) f hf)
    refine ⟨(a, b), ⟨_, _, ?_, h1, h3⟩, fun hw => ⟨h2 fun n hn => hw n ?_, h4 fun n hn => hw n ?_⟩, ?_⟩
    · rw [← List.drop_drop, List.take_append_drop]
    · simp only [List.map_cons, DataW.weightsEach, List.mem_append]; exact .inl hn
    · simp only [List.map_cons, DataW.weightsEach, List.mem_append]; exact .inr hn
    · have := hD a b
      rw [List.map_cons, Rows.uptoBulkAll]; omega
theorem opensB_struct {fs : Array Field} {α : Type} {R : Rp α} {B : α → Nat} (ht : P.underlying t = some (.struct fs)) (hc : P.cellsOf t = R.sz) (ho : OpensFB P fs.toList 0 R B) : OpensB P t R B := by
  intro H enc w fuel cs x h
  obtain ⟨xs, n, _, rfl, hl, hx, hh⟩ := DataW.trod_struct ht h
  obtain ⟨a, h1, h2, h3⟩ := ho H enc w n cs xs (by rw [hl, hc]; omega) (by rw [hx, Array.length_toList]) (fun i f hf => hh i f (by simpa using hf))
  exact ⟨a, by simpa using h1, fun hw => h2 fun n hn => hw n (by simp only [DataW.weights, ht]; exact hn), by show _ ≤ Rows.uptoBulkAll (xs.map (·.1)) + 1; omega⟩
theorem opensB_via {α β : Type} {R : Rp α} {B : α → Nat} (f : β → α) (g : α → β) (hfg : ∀ a, f (g a) = a) (ho : OpensB P t R B) : OpensB P t (R.via f) (fun b => B (f b)) := by
  intro H enc w fuel cs x h
  obtain ⟨a, h1, h2, h3⟩ := ho H enc w fuel cs x h
  exact ⟨g a, by show R.ok w _ cs (f (g a)); rw [hfg]; exact h1, fun hw => by show R.fits (f (g a)); rw [hfg]; exact h2 hw, by show B (f (g a)) ≤ _; rw [hfg]; exact h3⟩
end
theorem bulk_mem {H : Type} {d : DataW H} : ∀ {l : List (DataW H)}, d ∈ l → Rows.uptoBulk d ≤ Rows.uptoBulkAll l
  | y :: l, h => by
    rw [Rows.uptoBulkAll]
    rcases List.mem_cons.1 h with rfl | h
    · omega
    · have := bulk_mem h; omega
end Go.Proofs.YtgfacedfndcgdaaGreatDoor
