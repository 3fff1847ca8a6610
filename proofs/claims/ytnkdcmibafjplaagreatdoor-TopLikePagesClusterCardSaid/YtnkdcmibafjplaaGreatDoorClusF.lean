/-
  The faults of Clusters, plainly.
-/
import Derived.Test.YtnkdcmibafjplaaGreatDoorClusS
namespace Go.Proofs.YtnkdcmibafjplaaGreatDoor
open Go.RowKit
set_option linter.unusedVariables false

theorem ltB_of {ls : List (List UInt8)} (h : ∀ t ∈ ls, t.length ≤ 20000) : ltB ls = true := List.all_eq_true.2 fun t ht => decide_eq_true (h t ht)
theorem clF_long {ls : List (List UInt8)} {n num den : Int} {k : Nat} (hk : k < ls.length) (h : 20000 < ls[k].length) : clF ls n num den = 2 := by
  have : ltB ls = false := by
    cases hb : ltB ls with
    | false => rfl
    | true => have := of_decide_eq_true (List.all_eq_true.1 hb _ (List.getElem_mem hk)); omega
  unfold clF; rw [if_neg (by rw [this]; decide)]
theorem clF_many {ls : List (List UInt8)} {n num den : Int} (h : ∀ t ∈ ls, t.length ≤ 20000) (h2 : 60 < ls.length) : clF ls n num den = 2 := by
  unfold clF
  rw [if_pos (ltB_of h), if_neg (by omega)]
theorem clF_range {ls : List (List UInt8)} {n num den : Int} (h : ∀ t ∈ ls, t.length ≤ 20000) (h2 : ls.length ≤ 60) : clF ls n num den = if rtB n num den = true then 0 else 1 := by
  unfold clF
  rw [if_pos (ltB_of h), if_pos h2]
theorem rtB_1 {n num den : Int} (h : isSh n = false) : rtB n num den = false := by unfold rtB; rw [h]; rfl
theorem rtB_2 {n num den : Int} (h : decide (1 ≤ den ∧ den ≤ 1000000) = false) : rtB n num den = false := by unfold rtB; rw [h]; simp
theorem rtB_3 {n num den : Int} (h : decide (0 ≤ num ∧ num ≤ den) = false) : rtB n num den = false := by unfold rtB; rw [h]; simp
theorem ClSt.start (N D L : Nat) (w : World) : ClSt N D [] (.slice none 0 0) (w.heap.size + 1) (base0 L 0) w ((w.alloc (.cells #[.int .i64 N, .int .i64 D] 24)).alloc (.cells (List.replicate L (.int .i64 0)).toArray 3)) := by
  have hb0 : Below w.heap.size w (w.alloc (.cells #[.int .i64 N, .int .i64 D] 24)) := (Below.refl _ _).alloc (Nat.le_refl _) _
  have hn := Blk.new (w.alloc (.cells #[.int .i64 N, .int .i64 D] 24)) 3 (List.replicate L (.int .i64 0))
  rw [World.size_alloc] at hn
  refine ⟨(Blk.new w _ _).allocR _, ?_, Nat.lt_succ_self _, Nest.nil _, hb0.alloc (by rw [World.size_alloc]; omega) _⟩
  simpa [base0, natV] using hn
section
variable {num den : Int} {S : List (List Int)} {vS : Value} {gb : Nat} {G : List Nat} {w wr wz : World}
theorem ClSt.setB (h : ClSt num den S vS gb G w wr) {rb : Nat} {cs : List Value} (hk : Blk wr rb 24 cs) (hlt : w.heap.size < rb) (j : Nat) (u : Value) : ClSt num den S vS gb G w (wr.setCell ⟨rb, j, none⟩ u) :=
  ⟨h.kl.setR (Nat.ne_of_lt hlt) u, h.kg.setR (h.kg.ne hk (by decide)) u, h.gt, h.nest.other hk (by decide) (by decide) ⟨rfl, rfl, rfl, by simp, fun k _ hk => heap_setCell_other wr _ k _ (fun e => hk (by rw [e]))⟩, h.bel.setCell (Nat.le_of_lt hlt) _⟩
/-- Kept over an append to a row of another type. -/
theorem ClSt.row (h : ClSt num den S vS gb G w wr) {B n : Nat} {v : Value} {xs : List Value} (hr : wr.ownsRow B 35 1 v n xs) (hg : wr.grownBy wz v.ownBlock) (hB : Below w.heap.size w wz) : ClSt num den S vS gb G w wz := by
  refine ⟨blk_rowR h.kl hr (by decide) hg, blk_rowR h.kg hr (by decide) hg, h.gt, ?_, hB⟩
  cases hv : v.ownBlock with
  | none => rw [hv] at hg; exact Nest.grown h.nest hg
  | some g =>
    obtain ⟨cur, hc⟩ := own_cells hr hv
    rw [hv] at hg
    exact h.nest.other (t := 35) (cs := cur.toList) (by unfold Blk; rw [Array.toArray_toList]; exact hc) (by decide) (by decide) hg
end
theorem take_shs {ls : List (List UInt8)} {n : Int} {k : Nat} (h : k < ls.length) : (shs ls n).take (k + 1) = (shs ls n).take k ++ [shL ls[k] n.toNat] := by
  rw [List.take_succ_eq_append_getElem (by simp [shs]; exact h)]
  simp [shs]
theorem shs_length (ls : List (List UInt8)) (n : Int) : (shs ls n).length = ls.length := by simp [shs]
/-- The groups that the reference has written ahead of text i. -/
def outsR (G : List Nat) (L i : Nat) : List (List Nat) := ((List.range i).filter (firstB G)).map fun j => memL G L (G.getD j 0)
theorem outsR_skip {G : List Nat} {L i : Nat} (h : firstB G i = false) : outsR G L (i + 1) = outsR G L i := by
  unfold outsR; rw [List.range_succ, List.filter_append]; simp [h]
theorem outsR_push {G : List Nat} {L i : Nat} (h : firstB G i = true) : outsR G L (i + 1) = outsR G L i ++ [memL G L (G.getD i 0)] := by
  unfold outsR; rw [List.range_succ, List.filter_append, List.map_append]; simp [h]
theorem outsR_len (G : List Nat) (L i : Nat) : (outsR G L i).length ≤ i := by
  unfold outsR; rw [List.length_map]; exact Nat.le_trans (List.length_filter_le _ _) (by simp)
theorem memL_succ (G : List Nat) (k x : Nat) : memL G (k + 1) x = memL G k x ++ if G.getD k 0 = x then [k] else [] := by
  unfold memL; rw [List.range_succ, List.filter_append, List.filter_cons]
  by_cases h : G.getD k 0 = x
  · rw [if_pos h, if_pos (by rw [h]; exact beq_self_eq_true _)]; rfl
  · rw [if_neg h, if_neg (by rw [beq_iff_eq]; exact h)]; rfl
theorem memL_len (G : List Nat) (k x : Nat) : (memL G k x).length ≤ k := by
  unfold memL; exact Nat.le_trans (List.length_filter_le _ _) (by simp)
end Go.Proofs.YtnkdcmibafjplaaGreatDoor
