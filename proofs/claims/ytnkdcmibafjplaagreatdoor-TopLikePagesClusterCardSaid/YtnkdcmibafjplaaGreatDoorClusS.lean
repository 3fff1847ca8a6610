/-
  What both packages' Clusters keep over their rounds; their results, plainly.
-/
import Derived.Test.YtnkdcmibafjplaaGreatDoorProg
import Derived.Test.YtnkdcmibafjplaaGreatDoorNestAt
import Derived.Test.YtnkdcmibafjplaaGreatDoorClusP
import Derived.Test.YtnkdcmibafjplaaGreatDoorResem
import Derived.Test.YtnkdcmibafjplaaGreatDoorShAll
namespace Go.Proofs.YtnkdcmibafjplaaGreatDoor
open Go.RowKit
set_option linter.unusedVariables false
set_option linter.unusedSimpArgs false

def natV (k : Nat) : Value := .int .i64 (k : Nat)
/-- Two rows of shingles are alike enough. -/
def alB (N D : Nat) (p q : List Int) : Bool := decide (N * (resQ p q).2 ≤ (resQ p q).1 * D)
def shs (ls : List (List UInt8)) (n : Int) : List (List Int) := ls.map fun t => shL t n.toNat
def alS (N D : Nat) (S : List (List Int)) (i k : Nat) : Bool := alB N D (S.getD i []) (S.getD k [])
def ltB (ls : List (List UInt8)) : Bool := ls.all fun t => decide (t.length ≤ 20000)
def rtB (n num den : Int) : Bool := isSh n && (decide (1 ≤ den ∧ den ≤ 1000000) && decide (0 ≤ num ∧ num ≤ den))
def clF (ls : List (List UInt8)) (n num den : Int) : Int := if ltB ls = true then (if ls.length ≤ 60 then (if rtB n num den = true then 0 else 1) else 2) else 2
def clG (ls : List (List UInt8)) (n num den : Int) : List Nat := gR (alS num.toNat den.toNat (shs ls n)) ls.length ls.length
def clO (ls : List (List UInt8)) (n num den : Int) : List (List Nat) := if clF ls n num den = 0 then grps (clG ls n num den) else []
def ClPost (ls : List (List UInt8)) (n num den : Int) (w : World) (e : Ending) (w' : World) : Prop :=
  ∃ v, e = .returned (.tuple #[v, .int .i64 (clF ls n num den)]) ∧ Nest1 (fun g : List Nat => g.map natV) 35 3 w.heap.size w' v (clO ls n num den) ∧ Below w.heap.size w w'
theorem cl_bad {ls : List (List UInt8)} {n num den f : Int} {w w' : World} (hf : clF ls n num den = f) (hn : f ≠ 0) (hb : Below w.heap.size w w') : ClPost ls n num den w (.returned (.tuple #[.slice none 0 0, .int .i64 f])) w' :=
  ⟨_, by rw [hf], by unfold clO; rw [if_neg (by rw [hf]; exact hn)]; exact Nest.nil w', hb⟩
theorem clF_good {ls : List (List UInt8)} {n num den : Int} (h : clF ls n num den = 0) : (∀ t ∈ ls, t.length ≤ 20000) ∧ ls.length ≤ 60 ∧ isSh n = true ∧ (1 ≤ den ∧ den ≤ 1000000) ∧ (0 ≤ num ∧ num ≤ den) := by
  unfold clF at h
  split at h
  · rename_i h1
    split at h
    · rename_i h2
      split at h
      · rename_i h3
        unfold rtB at h3
        simp only [Bool.and_eq_true] at h3
        exact ⟨fun t ht => of_decide_eq_true (List.all_eq_true.1 h1 t ht), h2, h3.1, of_decide_eq_true h3.2.1, of_decide_eq_true h3.2.2⟩
      · cases h
    · cases h
  · cases h
/-- The memory while texts are compared: the limit's box, the labels, the rows of shingles. -/
structure ClSt (num den : Int) (S : List (List Int)) (vS : Value) (gb : Nat) (G : List Nat) (w wr : World) : Prop where
  kl : Blk wr w.heap.size 24 [.int .i64 num, .int .i64 den]
  kg : Blk wr gb 3 (G.map natV)
  gt : w.heap.size < gb
  nest : Nest1 (fun x : List Int => x.map u64V) 74 95 w.heap.size wr vS S
  bel : Below w.heap.size w wr
section
variable {num den : Int} {S : List (List Int)} {vS : Value} {gb : Nat} {G : List Nat} {w wr wz : World}
theorem ClSt.below (h : ClSt num den S vS gb G w wr) (hb : Below wr.heap.size wr wz) : ClSt num den S vS gb G w wz :=
  ⟨h.kl.same (same_below hb) h.kl.lt, h.kg.same (same_below hb) h.kg.lt, h.gt, h.nest.below hb, below_trans2 h.bel hb h.bel.size⟩
theorem ClSt.alloc (h : ClSt num den S vS gb G w wr) (o : Obj) : ClSt num den S vS gb G w (wr.alloc o) := h.below ((Below.refl _ _).alloc (Nat.le_refl _) o)
theorem ClSt.drewN (h : ClSt num den S vS gb G w wr) (n : Nat) : ClSt num den S vS gb G w (wr.drewN n) := h.below (below_drewN (Below.refl _ _) n)
theorem ClSt.setG (h : ClSt num den S vS gb G w wr) (j x : Nat) : ClSt num den S vS gb (G.set j x) w (wr.setCell ⟨gb, j, none⟩ (natV x)) := by
  have hg : wr.grownBy (wr.setCell ⟨gb, j, none⟩ (natV x)) (some gb) := ⟨rfl, rfl, rfl, by simp, fun k _ hk => heap_setCell_other wr _ k _ (fun e => hk (by rw [e]))⟩
  refine ⟨h.kl.setR (Nat.ne_of_lt h.gt) _, ?_, h.gt, h.nest.other h.kg (by decide) (by decide) hg, h.bel.setCell (Nat.le_of_lt h.gt) _⟩
  rw [List.map_set]
  exact h.kg.set_ j _
theorem ClSt.g_at (h : ClSt num den S vS gb G w wr) {j : Nat} (hj : j < G.length) : wr.cell? ⟨gb, j, none⟩ = some (.int .i64 ((G.getD j 0 : Nat) : Int)) := by
  rw [h.kg.cell]
  simp [natV, List.getD_eq_getElem?_getD, hj]
theorem ClSt.s_at (h : ClSt num den S vS gb G w wr) {k : Nat} (hk : k < S.length) :
    ∃ g c u, vS = .slice (some ⟨g, 0, none⟩) S.length c ∧ wr.cell? ⟨g, k, none⟩ = some u ∧ wr.ownsRow w.heap.size 95 1 u (S.getD k []).length ((S.getD k []).map u64V) := by
  obtain ⟨g, c, u, h1, _, _, h4, _, h6⟩ := h.nest.at_ hk
  have e : S.getD k [] = S[k] := by simp [List.getD_eq_getElem?_getD, hk]
  have hl : (S[k].map u64V).length = S[k].length := List.length_map _
  refine ⟨g, c, u, h1, h4, ?_⟩
  rw [e]
  simpa only [hl] using h6
end
theorem shs_at {ls : List (List UInt8)} {n : Int} {k : Nat} (h : k < ls.length) : (shs ls n).getD k [] = shL ls[k] n.toNat := by
  simp [shs, List.getD_eq_getElem?_getD, h]
theorem shs_sorted {ls : List (List UInt8)} {n : Int} (k : Nat) : ((shs ls n).getD k []).Pairwise (· < ·) := by
  by_cases h : k < ls.length
  · rw [shs_at h]; exact shL_sorted _ _
  · rw [List.getD_eq_getElem?_getD, List.getElem?_eq_none (by simp [shs]; omega)]; exact List.Pairwise.nil
theorem shs_len {ls : List (List UInt8)} {n : Int} (hl : ∀ t ∈ ls, t.length ≤ 20000) (hn : isSh n = true) (k : Nat) : ((shs ls n).getD k []).length ≤ 20001 := by
  have hn2 : 1 ≤ n ∧ n ≤ 10 := of_decide_eq_true hn
  by_cases h : k < ls.length
  · rw [shs_at h]; exact shL_len (hl _ (List.getElem_mem h)) _ (by omega)
  · rw [List.getD_eq_getElem?_getD, List.getElem?_eq_none (by simp [shs]; omega)]; exact Nat.zero_le _
theorem shs_range {ls : List (List UInt8)} {n : Int} {k : Nat} {x : Int} (hx : x ∈ (shs ls n).getD k []) : 0 ≤ x ∧ x ≤ 18446744073709551615 := by
  by_cases h : k < ls.length
  · rw [shs_at h] at hx; exact shL_range hx
  · rw [List.getD_eq_getElem?_getD, List.getElem?_eq_none (by simp [shs]; omega)] at hx; cases hx
theorem row_read {l : List Int} {w : World} {v : Value} {B : Nat} (h : w.ownsRow B 95 1 v l.length (l.map u64V)) (hr : ∀ x ∈ l, 0 ≤ x ∧ x ≤ 18446744073709551615) : (Rp.sl (Rp.int .u64)).ok w (· < w.heap.size) [v] l :=
  Rp.int_own (k := .u64) (n := l.length) (B := B) (e := 95) h (fun x hx => by
    have hr := hr x hx
    simp [Lit.wf, IntKind.min, IntKind.max, IntKind.signed, IntKind.bits]; omega) (fun g hg => (h.lt g hg).2)
theorem resQ_small {a b : List Int} (la : a.length ≤ 20001) (lb : b.length ≤ 20001) : (resQ a b).1 ≤ 40002 ∧ (resQ a b).2 ≤ 40002 := by
  have hl := com_le a b
  unfold resQ
  split
  · exact ⟨by decide, by decide⟩
  · exact ⟨Nat.le_trans (Nat.div_le_self _ _) (by omega), Nat.le_trans (Nat.div_le_self _ _) (by omega)⟩
theorem blk_rowR {w w' : World} {g B n : Nat} {t e : TypeId} {cs xs : List Value} {v : Value} (hk : Blk w g t cs) (hr : w.ownsRow B e 1 v n xs) (hne : t ≠ e) (hg : w.grownBy w' v.ownBlock) : Blk w' g t cs := by
  refine (hg.block g hk.lt ?_).trans hk
  intro e1
  obtain ⟨cur, hc⟩ := own_cells hr e1.symm
  have := (show w.heap[g]? = _ from hk).symm.trans hc
  simp only [Option.some.injEq, Obj.cells.injEq] at this
  exact hne this.2.1
section
variable {num den : Int} {S : List (List Int)} {vS : Value} {gb : Nat} {G : List Nat} {w wr wz : World}
/-- What stands open for the next row of shingles. -/
theorem ClSt.open_ (h : ClSt num den S vS gb G w wr) : ∃ xs, wr.ownsRow w.heap.size 74 1 vS S.length xs ∧ ∀ (w2 w4 : World) (v4 : Value) (x : List Int) (u : Value), Below wr.heap.size wr w2 → w2.ownsRow wr.heap.size 95 1 u x.length (x.map u64V) →
    w2.grownBy w4 vS.ownBlock → (∀ w0, Below w.heap.size w0 w2 → Below w.heap.size w0 w4) → w4.ownsRow w.heap.size 74 1 v4 (S.length + 1) (xs ++ [u]) → ClSt num den (S ++ [x]) v4 gb G w w4 := by
  obtain ⟨xs, h1, h2⟩ := Nest.open_ (by decide) h.nest
  refine ⟨xs, h1, fun w2 w4 v4 x u hb hu hg hB ho => ?_⟩
  have hg0 : wr.grownBy w2 none := ⟨hb.os, hb.tape, hb.output, hb.size, fun k hk _ => hb.block k hk⟩
  have s2 := h.below hb
  have hrow := own_belowU h1 hb
  refine ⟨blk_rowR s2.kl hrow (by decide) hg, blk_rowR s2.kg hrow (by decide) hg, s2.gt, ?_, hB w s2.bel⟩
  refine h2 w2 w4 v4 x u hg0 ?_ (fun g hg' => (hu.lt g hg').1) hg (by simpa using ho)
  rw [List.length_map]
  exact own_base hu h.bel.size
end
/-! ### A label turned into another one, place by place -/
def relP (f t : Nat) (g : List Nat) (x : Nat) : List Nat := (g.take x).map (fun y => if y = f then t else y) ++ g.drop x
theorem relP_len (f t : Nat) (g : List Nat) (x : Nat) : (relP f t g x).length = g.length := by simp [relP]; omega
theorem relP_zero (f t : Nat) (g : List Nat) : relP f t g 0 = g := by simp [relP]
theorem relP_full (f t : Nat) (g : List Nat) (x : Nat) (h : g.length ≤ x) : relP f t g x = rel1 f t g := by
  unfold relP rel1; rw [List.take_of_length_le h, List.drop_of_length_le h, List.append_nil]
theorem relP_at {f t : Nat} {g : List Nat} {x k : Nat} (hk : k < g.length) : (relP f t g x).getD k 0 = if k < x ∧ g.getD k 0 = f then t else g.getD k 0 := by
  unfold relP
  rw [List.getD_eq_getElem?_getD, List.getD_eq_getElem?_getD]
  by_cases h : k < x
  · rw [List.getElem?_append_left (by simp; omega)]
    simp [h, hk]
  · rw [List.getElem?_append_right (by simp; omega), if_neg (fun e => h e.1), List.getElem?_drop]
    congr 2
    simp; omega
theorem relP_set {f t : Nat} {g : List Nat} {x : Nat} (hx : x < g.length) (he : g.getD x 0 = f) : (relP f t g x).set x t = relP f t g (x + 1) := by
  have he' : g[x] = f := by rw [List.getD_eq_getElem?_getD, List.getElem?_eq_getElem hx] at he; exact he
  unfold relP
  rw [List.set_append, if_neg (by simp; omega), List.take_succ_eq_append_getElem hx, List.map_append, List.drop_eq_getElem_cons hx]
  simp [he', Nat.min_eq_left (Nat.le_of_lt hx)]
theorem relP_skip {f t : Nat} {g : List Nat} {x : Nat} (hx : x < g.length) (he : g.getD x 0 ≠ f) : relP f t g x = relP f t g (x + 1) := by
  have he' : ¬ g[x] = f := by rw [List.getD_eq_getElem?_getD, List.getElem?_eq_getElem hx] at he; exact he
  unfold relP
  rw [List.take_succ_eq_append_getElem hx, List.map_append, List.drop_eq_getElem_cons hx]
  simp [he']
def base0 (L k : Nat) : List Nat := List.range k ++ List.replicate (L - k) 0
theorem base0_len {L k : Nat} (h : k ≤ L) : (base0 L k).length = L := by simp [base0]; omega
theorem base0_set {L k : Nat} (h : k < L) : (base0 L k).set k k = base0 L (k + 1) := by
  unfold base0
  rw [List.set_append, if_neg (by simp), List.range_succ, show L - k = (L - (k + 1)) + 1 by omega, List.replicate_succ]
  simp
theorem base0_full (L : Nat) : base0 L L = List.range L := by simp [base0]
end Go.Proofs.YtnkdcmibafjplaaGreatDoor
