/-
  The longest common row of two lists, and its table: plain facts.
-/
import Derived.Test.YtofahmdjhpbecaaBase
namespace Go.Proofs.Ytofahmdjhpbecaa
open Go.RowKit
set_option linter.unusedVariables false
set_option linter.unusedSimpArgs false

section
variable {α : Type} [DecidableEq α]
/-- How many elements can stay. -/
def lcs : List α → List α → Nat
  | [], _ => 0
  | _ :: _, [] => 0
  | x :: a, y :: b => if x = y then max (max (lcs a (y :: b)) (lcs (x :: a) b)) (lcs a b + 1) else max (lcs a (y :: b)) (lcs (x :: a) b)
termination_by a b => a.length + b.length
theorem lcs_nil (b : List α) : lcs [] b = 0 := by rw [lcs]
theorem lcs_nil' (a : List α) : lcs a [] = 0 := by cases a <;> rw [lcs]
theorem lcs_cons (x y : α) (a b : List α) : lcs (x :: a) (y :: b) = if x = y then max (max (lcs a (y :: b)) (lcs (x :: a) b)) (lcs a b + 1) else max (lcs a (y :: b)) (lcs (x :: a) b) := by rw [lcs]
theorem lcs_le : ∀ (a b : List α), lcs a b ≤ a.length ∧ lcs a b ≤ b.length
  | [], b => by rw [lcs_nil]; simp
  | x :: a, [] => by rw [lcs_nil']; simp
  | x :: a, y :: b => by
    have h1 := lcs_le a (y :: b)
    have h2 := lcs_le (x :: a) b
    have h3 := lcs_le a b
    rw [lcs_cons]
    simp only [List.length_cons] at *
    split <;> omega
termination_by a b => a.length + b.length
def lcsAt (a b : List α) (i k : Nat) : Nat := lcs (a.drop i) (b.drop k)
theorem lcsAt_le (a b : List α) (i k : Nat) : lcsAt a b i k ≤ a.length ∧ lcsAt a b i k ≤ b.length := by
  have := lcs_le (a.drop i) (b.drop k)
  simp only [List.length_drop] at this
  unfold lcsAt; omega
theorem lcsAt_end (a b : List α) (i k : Nat) (h : b.length ≤ k) : lcsAt a b i k = 0 := by rw [lcsAt, List.drop_of_length_le h, lcs_nil']
theorem lcsAt_end' (a b : List α) (i k : Nat) (h : a.length ≤ i) : lcsAt a b i k = 0 := by rw [lcsAt, List.drop_of_length_le h, lcs_nil]
theorem lcsAt_eq (a b : List α) (i k : Nat) (h1 : i < a.length) (h2 : k < b.length) (e : a[i] = b[k]) :
    lcsAt a b i k = max (max (lcsAt a b (i + 1) k) (lcsAt a b i (k + 1))) (lcsAt a b (i + 1) (k + 1) + 1) := by
  unfold lcsAt
  rw [List.drop_eq_getElem_cons h1, List.drop_eq_getElem_cons h2, lcs_cons, if_pos e]
theorem lcsAt_ne (a b : List α) (i k : Nat) (h1 : i < a.length) (h2 : k < b.length) (e : a[i] ≠ b[k]) :
    lcsAt a b i k = max (lcsAt a b (i + 1) k) (lcsAt a b i (k + 1)) := by
  unfold lcsAt
  rw [List.drop_eq_getElem_cons h1, List.drop_eq_getElem_cons h2, lcs_cons, if_neg e]

/-- The row i of the table, of which the last d cells are done. -/
def valsP (a b : List α) (i d : Nat) : List Value := (List.range (b.length + 1)).map fun k => .int .i64 (if b.length ≤ k + d then lcsAt a b i k else 0 : Nat)
theorem valsP_len (a b : List α) (i d : Nat) : (valsP a b i d).length = b.length + 1 := by simp [valsP]
theorem valsP_zero (a b : List α) (i : Nat) : valsP a b i 0 = List.replicate (b.length + 1) (.int .i64 0) := by
  rw [List.eq_replicate_iff]
  refine ⟨valsP_len a b i 0, fun x hx => ?_⟩
  obtain ⟨k, hk, rfl⟩ := List.mem_map.1 hx
  split
  · rw [lcsAt_end _ _ _ _ (by omega)]; rfl
  · rfl
theorem valsP_at (a b : List α) (i d k : Nat) (h : k ≤ b.length) (h2 : b.length ≤ k + d) : (valsP a b i d)[k]? = some (.int .i64 (lcsAt a b i k : Nat)) := by
  simp only [valsP, List.getElem?_map, List.getElem?_range (show k < b.length + 1 by omega), Option.map_some, if_pos h2]
theorem valsP_some (a b : List α) (i d k : Nat) (h : k ≤ b.length) : ((valsP a b i d)[k]?).isSome = true := by
  simp only [valsP, List.getElem?_map, List.getElem?_range (show k < b.length + 1 by omega), Option.map_some, Option.isSome_some]
theorem valsP_set (a b : List α) (i d k : Nat) (h : k + d + 1 = b.length) : (valsP a b i d).set k (.int .i64 (lcsAt a b i k : Nat)) = valsP a b i (d + 1) := by
  apply List.ext_getElem?
  intro j
  by_cases hj : j < b.length + 1
  · rw [List.getElem?_set]
    by_cases e : k = j
    · subst e
      rw [if_pos rfl, if_pos (by rw [valsP_len]; omega), valsP_at _ _ _ _ _ (by omega) (by omega)]
    · rw [if_neg e]
      simp only [valsP, List.getElem?_map, List.getElem?_range hj, Option.map_some]
      by_cases e1 : b.length ≤ j + d
      · rw [if_pos e1, if_pos (by omega)]
      · rw [if_neg e1, if_neg (by omega)]
  · rw [List.getElem?_eq_none (by rw [List.length_set, valsP_len]; omega), List.getElem?_eq_none (by rw [valsP_len]; omega)]
theorem valsP_last (a b : List α) (i d : Nat) (h : a.length ≤ i) : valsP a b i d = valsP a b i b.length := by
  unfold valsP
  refine List.map_congr_left fun k hk => ?_
  rw [lcsAt_end' _ _ _ _ h]
  split <;> split <;> rfl
end

/-- The rows of the table: the c last ones are made. -/
def rowsC (n m G c : Nat) : List Value := (List.range (n + 1)).map fun i => if n < i + c then .slice (some ⟨G + 1 + (n - i), 0, none⟩) (m + 1) (m + 1) else .slice none 0 0
theorem rowsC_len (n m G c : Nat) : (rowsC n m G c).length = n + 1 := by simp [rowsC]
theorem rowsC_zero (n m G : Nat) : rowsC n m G 0 = List.replicate (n + 1) (.slice none 0 0) := by
  rw [List.eq_replicate_iff]
  refine ⟨rowsC_len n m G 0, fun x hx => ?_⟩
  obtain ⟨k, hk, rfl⟩ := List.mem_map.1 hx
  have := List.mem_range.1 hk
  rw [if_neg (by omega)]
theorem rowsC_at (n m G c i : Nat) (h : i ≤ n) (h2 : n < i + c) : (rowsC n m G c)[i]? = some (.slice (some ⟨G + 1 + (n - i), 0, none⟩) (m + 1) (m + 1)) := by
  simp only [rowsC, List.getElem?_map, List.getElem?_range (show i < n + 1 by omega), Option.map_some, if_pos h2]
theorem rowsC_nil (n m G c i : Nat) (h : i + c = n) : (rowsC n m G c)[i]? = some (.slice none 0 0) := by
  simp only [rowsC, List.getElem?_map, List.getElem?_range (show i < n + 1 by omega), Option.map_some, if_neg (show ¬ n < i + c by omega)]
theorem rowsC_set (n m G c i : Nat) (h : i + c = n) : (rowsC n m G c).set i (.slice (some ⟨G + 1 + c, 0, none⟩) (m + 1) (m + 1)) = rowsC n m G (c + 1) := by
  apply List.ext_getElem?
  intro j
  by_cases hj : j < n + 1
  · rw [List.getElem?_set]
    by_cases e : i = j
    · subst e
      rw [if_pos rfl, if_pos (by rw [rowsC_len]; omega), rowsC_at _ _ _ _ _ (by omega) (by omega), show n - i = c by omega]
    · rw [if_neg e]
      simp only [rowsC, List.getElem?_map, List.getElem?_range hj, Option.map_some]
      by_cases e1 : n < j + c
      · rw [if_pos e1, if_pos (by omega)]
      · rw [if_neg e1, if_neg (by omega)]
  · rw [List.getElem?_eq_none (by rw [List.length_set, rowsC_len]; omega), List.getElem?_eq_none (by rw [rowsC_len]; omega)]

section
variable {α : Type} [DecidableEq α]
/-- c rows are made. -/
structure Grid (E F : TypeId) (a b : List α) (G c : Nat) (w : World) : Prop where
  top : Blk w G E (rowsC a.length b.length G c)
  row : ∀ r, r < c → Blk w (G + 1 + r) F (valsP a b (a.length - r) b.length)
  size : w.heap.size = G + 1 + c
/-- .. and of the next one d cells. -/
structure GridIn (E F : TypeId) (a b : List α) (G c d : Nat) (w : World) : Prop where
  top : Blk w G E (rowsC a.length b.length G (c + 1))
  row : ∀ r, r < c → Blk w (G + 1 + r) F (valsP a b (a.length - r) b.length)
  now : Blk w (G + 1 + c) F (valsP a b (a.length - c) d)
  size : w.heap.size = G + 1 + c + 1
theorem GridIn.up {E F : TypeId} {a b : List α} {G c : Nat} {w : World} (h : GridIn E F a b G c b.length w) : Grid E F a b G (c + 1) w :=
  ⟨h.top, fun r hr => by
    by_cases e : r = c
    · subst e; exact h.now
    · exact h.row r (by omega), h.size⟩
theorem Grid.start {E F : TypeId} (a b : List α) (w : World) : Grid E F a b w.heap.size 0 (w.alloc (.cells (List.replicate (a.length + 1) (.slice none 0 0)).toArray E)) :=
  ⟨by rw [rowsC_zero]; exact Blk.new _ _ _, fun r hr => by omega, by simp⟩
theorem Blk.alloc_old {w : World} {g : Nat} {t : TypeId} {cs : List Value} (h : Blk w g t cs) (o : Obj) : Blk (w.alloc o) g t cs := (Below.heap_alloc w o g h.lt).trans h
theorem Blk.set_other {w : World} {g g' i : Nat} {t : TypeId} {cs : List Value} (h : Blk w g t cs) (hne : g ≠ g') (v : Value) : Blk (w.setCell ⟨g', i, none⟩ v) g t cs := (heap_setCell_other w _ g v hne).trans h
theorem Blk.drewN {w : World} {g : Nat} {t : TypeId} {cs : List Value} (h : Blk w g t cs) (n : Nat) : Blk (w.drewN n) g t cs := h
theorem Grid.next {E F : TypeId} {a b : List α} {G c i : Nat} {w : World} (h : Grid E F a b G c w) (hi : i + c = a.length) :
    GridIn E F a b G c 0 ((w.alloc (.cells (List.replicate (b.length + 1) (.int .i64 0)).toArray F)).setCell ⟨G, i, none⟩ (.slice (some ⟨w.heap.size, 0, none⟩) (b.length + 1) (b.length + 1))) := by
  have hs := h.size
  refine ⟨?_, fun r hr => ((h.row r hr).alloc_old _).set_other (by omega) _, ?_, by simp; omega⟩
  · have := (h.top.alloc_old (.cells (List.replicate (b.length + 1) (.int .i64 0)).toArray F)).set_ i (.slice (some ⟨w.heap.size, 0, none⟩) (b.length + 1) (b.length + 1))
    rw [hs, rowsC_set _ _ _ _ _ hi] at this
    rw [hs]; exact this
  · rw [valsP_zero]
    have := Blk.new w F (List.replicate (b.length + 1) (.int .i64 0))
    rw [hs] at this
    exact this.set_other (by omega) _
theorem GridIn.set {E F : TypeId} {a b : List α} {G c d k : Nat} {w : World} (h : GridIn E F a b G c d w) (hk : k + d + 1 = b.length) {R i : Nat} (hR : R = G + 1 + c) (hi : i + c = a.length) :
    GridIn E F a b G c (d + 1) (w.setCell ⟨R, k, none⟩ (.int .i64 (lcsAt a b i k : Nat))) := by
  subst hR
  have := h.now.set_ k (.int .i64 (lcsAt a b i k : Nat))
  rw [show a.length - c = i by omega, valsP_set _ _ _ _ _ hk] at this
  exact ⟨h.top.set_other (by omega) _, fun r hr => (h.row r hr).set_other (by omega) _, by rw [show a.length - c = i by omega]; exact this, by simp [h.size]⟩
theorem GridIn.set2 {E F : TypeId} {a b : List α} {G c d k : Nat} {w : World} (h : GridIn E F a b G c d w) (hk : k + d + 1 = b.length) {R i : Nat} (hR : R = G + 1 + c) (hi : i + c = a.length) (v : Value) (n : Nat) :
    GridIn E F a b G c (d + 1) (((w.setCell ⟨R, k, none⟩ v).drewN n).setCell ⟨R, k, none⟩ (.int .i64 (lcsAt a b i k : Nat))) := by
  subst hR
  have := ((h.now.set_ k v).drewN n).set_ k (.int .i64 (lcsAt a b i k : Nat))
  rw [List.set_set, show a.length - c = i by omega, valsP_set _ _ _ _ _ hk] at this
  refine ⟨((h.top.set_other (by omega) _).drewN n).set_other (by omega) _, fun r hr => (((h.row r hr).set_other (by omega) _).drewN n).set_other (by omega) _, by rw [show a.length - c = i by omega]; exact this, ?_⟩
  have : ((w.setCell ⟨G + 1 + c, k, none⟩ v).drewN n).heap.size = w.heap.size := by rw [World.drewN]; simp
  simp [h.size]
theorem GridIn.heap {E F : TypeId} {a b : List α} {G c d : Nat} {w w' : World} (h : GridIn E F a b G c d w) (e : w'.heap = w.heap) : GridIn E F a b G c d w' :=
  ⟨by have := h.top; unfold Blk at *; rw [e]; exact this, fun r hr => by have := h.row r hr; unfold Blk at *; rw [e]; exact this, by have := h.now; unfold Blk at *; rw [e]; exact this, by rw [e]; exact h.size⟩
theorem GridIn.drewN {E F : TypeId} {a b : List α} {G c d : Nat} {w : World} (h : GridIn E F a b G c d w) (n : Nat) : GridIn E F a b G c d (w.drewN n) := ⟨h.top, h.row, h.now, h.size⟩
/-- The table. -/
def lcsTab (a b : List α) : List (List Int) := (List.range (a.length + 1)).map fun i => (List.range (b.length + 1)).map fun k => (lcsAt a b i k : Int)
theorem Grid.read {E F : TypeId} {a b : List α} {G : Nat} {w : World} (h : Grid E F a b G (a.length + 1) w) (ha : a.length ≤ 400) (hb : b.length ≤ 400) :
    (Rp.sl (Rp.sl (Rp.int .i64))).ok w (· < w.heap.size) [.slice (some ⟨G, 0, none⟩) (a.length + 1) (a.length + 1)] (lcsTab a b) := by
  have hadd : ∀ g i, (⟨g, 0, none⟩ : Addr).add i = ⟨g, i, none⟩ := fun g i => by unfold Addr.add; split <;> simp_all
  refine ⟨some ⟨G, 0, none⟩, a.length + 1, by simp [lcsTab], by simp [lcsTab], by unfold maxLen; omega, by simp, fun i hi => ?_⟩
  have hi' : i < a.length + 1 := by simpa [lcsTab] using hi
  refine ⟨_, [.slice (some ⟨G + 1 + (a.length - i), 0, none⟩) (b.length + 1) (b.length + 1)], rfl, h.top.lt, ?_, fun j u hu => ?_⟩
  · simp only [lcsTab, List.getElem_map, List.getElem_range]
    refine ⟨some ⟨G + 1 + (a.length - i), 0, none⟩, b.length + 1, by simp, by simp, by unfold maxLen; omega, by simp, fun k hk => ?_⟩
    have hk' : k < b.length + 1 := by simpa using hk
    have hr := h.row (a.length - i) (by omega)
    rw [show a.length - (a.length - i) = i by omega] at hr
    refine ⟨_, [.int .i64 (lcsAt a b i k)], rfl, hr.lt, ⟨by simp, ?_⟩, fun j u hu => ?_⟩
    · simp only [List.getElem_map, List.getElem_range]
      have := lcsAt_le a b i k
      exact WalkArith.wf_i64 (by omega)
    · match j, hu with
      | 0, hu =>
        show w.cell? (Addr.add _ (k * 1 + 0)) = _
        rw [hadd, hr.cell, Nat.mul_one, Nat.add_zero, valsP_at _ _ _ _ _ (by omega) (by omega)]; exact hu
  · match j, hu with
    | 0, hu =>
      show w.cell? (Addr.add _ (i * 1 + 0)) = _
      rw [hadd, h.top.cell, Nat.mul_one, Nat.add_zero, rowsC_at _ _ _ _ _ (by omega) (by omega)]; exact hu
end

/-- 'make([]T, n)' of elements of one cell. -/
def Zeros (n : Nat) (z : Value) (e : TypeId) : Obj := .cells (List.replicate n z).toArray e
theorem madeCells_one (z : Value) (hz : z.cells = #[z]) (n : Nat) : madeCells z.cells n = (List.replicate n z).toArray := by
  rw [hz]
  apply Array.ext
  · simp [madeCells]
  · intro i h1 h2
    simp [madeCells, Nat.mod_one]
theorem run_make1 {P : Program} (w : World) (t e : TypeId) (z : Value) (bytes : Nat) (ht : P.underlying t = some (.slice e)) (hinfo : (P.info? e).map (fun i => (i.zero, i.size, i.bytes)) = some (some z, 1, bytes)) (hz : z.cells = #[z]) (n : Nat) (hn : bytes * n ≤ 281474976710656) (h63 : n ≤ 1000000000) (x : Int) (hx : x = n) :
    (Instr.makeSlice t (.int .i64 x) (.int .i64 x)).run P w = .ok (.slice (some ⟨w.heap.size, 0, none⟩) n n) (w.alloc (Zeros n z e)) := by
  subst hx
  obtain ⟨i, hi, hz', h1, h2⟩ := info_parts hinfo
  have hb : (i.bytes : Int) * (n : Int) ≤ 281474976710656 := by rw [h2]; have : ((bytes * n : Nat) : Int) ≤ 281474976710656 := by omega
                                                                rwa [Int.natCast_mul] at this
  have := run_make (P := P) w t e i z ht hi hz' .i64 .i64 n n (by omega) (Int.le_refl _) hb (by omega)
  rw [this, h1, Int.toNat_natCast, Nat.mul_one, madeCells_one z hz]; rfl
end Go.Proofs.Ytofahmdjhpbecaa
