/-
  'append' of a row of elements of several cells; 'slices.Clone' of leaves; 'Below', 'WithDigest' of the reference.
-/
import Derived.Test.YtnnoolemmnailaaDoorProg
import Derived.Test.YtnnoolemmnailaaDoorLeadPlain
import Derived.Laws.OwnMore
namespace Go.Proofs.YtnnoolemmnailaaDoor
open Go.RowKit
set_option linter.unusedVariables false
set_option linter.unusedSimpArgs false

theorem flat_cell {α : Type} {R : Rp α} {f : α → List Value} (hsz : 0 < R.sz) (hf : ∀ a, (f a).length = R.sz) {w : World} {S : Nat → Prop} {ad : Addr} {n c : Nat} {l : List α} (h : (Rp.sl R).ok w S [.slice (some ad) n c] l)
    (hu : ∀ a ∈ l, ∀ us, R.ok w S us a → us = f a) : ∀ j u, (l.flatMap f)[j]? = some u → w.cell? (ad.add j) = some u := by
  intro j u hj
  have hlen := flat_len hf l
  have hjl : j < l.length * R.sz := by rw [← hlen]; exact (List.getElem?_eq_some_iff.1 hj).1
  have hk : j / R.sz < l.length := Nat.div_lt_of_lt_mul (by rw [Nat.mul_comm]; exact hjl)
  have hi : j % R.sz < R.sz := Nat.mod_lt _ hsz
  have hjk : j / R.sz * R.sz + j % R.sz = j := by rw [Nat.mul_comm]; exact Nat.div_add_mod _ _
  obtain ⟨ad', us, e1, _, _, hus, hcell⟩ := Rp.sl_at h hk
  cases e1
  have hfa := flat_at hf l (j / R.sz) hk
  have := hcell (j % R.sz) u (by
    rw [hu _ (List.getElem_mem hk) us hus, ← hfa, List.getElem?_take_of_lt hi, List.getElem?_drop, hjk]
    exact hj)
  rw [hjk] at this
  exact this
def leafCells (x : Leaf) : List Value := [.string (bstr x.key), .string (bstr x.digest)]
theorem leaf_info : (Tryd.prog.info? 33).map (fun i => (i.zero, i.size, i.bytes)) = some (some (.agg #[.string ⟨#[]⟩, .string ⟨#[]⟩]), 2, 32) := by kernel_rfl
theorem leaves_read {w : World} {B : Nat} {v : Value} {l : List Leaf} {n : Nat} (h : w.ownsRow B 33 2 v n (l.flatMap leafCells)) (hl : ∀ s ∈ l, s.key.length ≤ maxLen ∧ s.digest.length ≤ maxLen) : (Rp.sl leafRp).ok w (· < w.heap.size) [v] l :=
  Rp.of_ownN (R := leafRp) (by decide) (fun _ => rfl) h (fun g hg => (h.lt g hg).2) (fun s hs => ⟨[_], [_], rfl, ⟨rfl, (hl s hs).1⟩, ⟨rfl, (hl s hs).2⟩⟩)
set_option maxRecDepth 100000 in
set_option maxHeartbeats 1000000 in
theorem cloneLeaves_any (ad : Addr) (c : Nat) (l : List Leaf) (w : World) (h : (Rp.sl leafRp).ok w (· < w.heap.size) [.slice (some ad) l.length c] l) (hm : l.length ≤ 1000) :
    Calls Tryd.prog 72 #[.slice (some ad) l.length c] w fun e w' => ∃ v, e = .returned v ∧ w'.ownsRow w.heap.size 33 2 v l.length (l.flatMap leafCells) ∧ Below w.heap.size w w' := by
  have hq : ∀ W : World, (binOp .eql 22 (.slice (some ad) l.length c) (.slice none 0 0)).run Tryd.prog W = .ok (.bool false) W := fun W => Lib.run_eql_slice_nil (P := Tryd.prog) W 22 33 (some ad) l.length c 0 0 Tryd.underlying22
  have ho : (w.alloc (.cells #[] 33)).ownsRow w.heap.size 33 2 (.slice (some ⟨w.heap.size, 0, none⟩) 0 0) 0 [] := World.ownsRow_lit (size := 2) w #[] 0 (Nat.le_refl _) (by unfold maxLen; omega) rfl
  have HO := Lib.hid ho
  have hal := (Below.refl w.heap.size w).alloc (Nat.le_refl _) (.cells #[] 33)
  have HAL := Lib.hid hal
  have HC := Lib.hid (flat_cell (R := leafRp) (f := leafCells) (by decide) (fun _ => rfl) (Rp.below _ h hal) (fun a _ us hu => (leaf_open hu).1))
  have hfl : (l.flatMap leafCells).length = l.length * 2 := flat_len (f := leafCells) (sz := 2) (fun _ => rfl) l
  have HFL := Lib.hid hfl
  have H1 : Hid (∀ u ∈ l.flatMap leafCells, u.oneCell' = true) := Lib.hid (fun u hu => by obtain ⟨x, _, hx⟩ := List.mem_flatMap.1 hu; simp [leafCells] at hx; rcases hx with rfl | rfl <;> rfl)
  obtain ⟨i, hi, hz, hi1, hi2⟩ := info_parts leaf_info
  clear ho hal h hfl
  go_enter Tryd.func72, Tryd.ntmps72
  go_wp2_with (at_builtin; refine wpList_append_own _ rfl (.tmp 5) (.tmp 6) 22 rfl w.heap.size 33 i (.agg #[.string ⟨#[]⟩, .string ⟨#[]⟩]) 2 32 Tryd.underlying22 hi hz hi1 hi2 rfl (by decide) (.slice (some ⟨w.heap.size, 0, none⟩) 0 0) 0 [] rfl HO.out ad l.length c (l.flatMap leafCells) rfl HFL.out HC.out H1.out (by unfold maxLen; omega) (by omega) (by simp) ?_; intro v' w' hown hgr _)
  go_ret
  have h2 := hown
  simp only [Nat.zero_add, List.nil_append] at h2
  exact ⟨_, rfl, h2, HAL.out.grown hgr (by simp) (fun k e => by cases e; exact Nat.le_refl _)⟩
def belowK (x : Int) (n : Nat) : Nat := (x % (n : Int)).toNat
theorem belowK_lt (x : Int) {n : Nat} (h : 0 < n) : belowK x n < n := by unfold belowK; have := Int.emod_lt_of_pos x (show (0 : Int) < n by omega); have := Int.emod_nonneg x (show (n : Int) ≠ 0 by omega); omega
set_option maxHeartbeats 400000 in
theorem refBelow_any (x : Int) (n : Nat) (w : World) (h0 : 0 < n) (hn : n ≤ 100000) (hx : (Lit.int .i64 x).wf = true) :
    Calls Tryd.prog 17 #[.int .i64 x, .int .i64 n] w fun e w' => e = .returned (.int .i64 (belowK x n)) ∧ w = w' := by
  have hlo := Int.emod_nonneg x (show (n : Int) ≠ 0 by omega)
  have hhi := Int.emod_lt_of_pos x (show (0 : Int) < n by omega)
  have hte := @Int.tmod_eq_emod x n
  by_cases h : x.tmod n < 0
  · have hv : x.tmod n + n = (belowK x n : Int) := by
      unfold belowK
      split at hte <;> omega
    have hw : wrap64 (x.tmod n + n) = (belowK x n : Int) := by rw [hv]; exact IntWalk.wrap64_in _ (by have := belowK_lt x h0; omega)
    have HW := Lib.hid hw
    clear hlo hhi hte hw hv
    go_enter Tryd.func17, Tryd.ntmps17
    go_wp2
    go_ret
    exact ⟨by show Ending.returned (Value.int .i64 (wrap64 (x.tmod n + n))) = _; rw [HW.out], rfl⟩
  · have hv : x.tmod n = (belowK x n : Int) := by
      unfold belowK
      split at hte <;> omega
    have HV := Lib.hid hv
    clear hlo hhi hte hv
    go_enter Tryd.func17, Tryd.ntmps17
    go_wp2
    go_ret
    exact ⟨by show Ending.returned (Value.int .i64 (x.tmod n)) = _; rw [HV.out], rfl⟩
theorem flat_set : ∀ (l : List Leaf) (m : Nat) (h : m < l.length) (d : Str8), (l.set m ⟨l[m].key, d⟩).flatMap leafCells = (l.flatMap leafCells).set (m * 2 + 1) (.string (bstr d))
  | x :: l, 0, _, d => rfl
  | x :: l, m + 1, h, d => by
    have := flat_set l m (by simpa using h) d
    rw [List.set_cons_succ, List.flatMap_cons, List.flatMap_cons, show (m + 1) * 2 + 1 = m * 2 + 1 + 2 by omega]
    simp only [List.getElem_cons_succ]
    rw [this]
    rfl
def withD (l : List Leaf) (m : Nat) (d : Str8) : List Leaf := if h : m < l.length then l.set m ⟨l[m].key, d⟩ else l
set_option maxRecDepth 100000 in
set_option maxHeartbeats 1000000 in
theorem withDigest_any (v0 : Value) (l : List Leaf) (x : Int) (d : Str8) (w : World) (h0 : (Rp.sl leafRp).ok w (· < w.heap.size) [v0] l) (hl0 : 0 < l.length) (hl : l.length ≤ 1000) (hls : ∀ s ∈ l, s.key.length ≤ maxLen ∧ s.digest.length ≤ maxLen) (hx : (Lit.int .i64 x).wf = true) (hd : d.length ≤ maxLen) :
    Calls Tryd.prog 20 #[v0, .int .i64 x, .string (bstr d)] w fun e w' => ∃ v, e = .returned (.tuple #[v, .int .i64 (belowK x l.length)]) ∧ (Rp.sl leafRp).ok w' (· < w'.heap.size) [v] (withD l (belowK x l.length) d) ∧ Below w.heap.size w w' := by
  obtain ⟨A, c, rfl, hlc, hc, _⟩ := Rp.sl_open h0
  unfold maxLen at hc
  obtain ⟨ad, rfl⟩ : ∃ ad, A = some ad := by
    rcases Rp.sl_some h0 hl0 with ⟨ad, h⟩
    rcases h with ⟨h, _⟩ | h
    · exact ⟨ad, h⟩
    · cases h
  have H0 := Lib.hid h0
  have HLS := Lib.hid hls
  have HD := Lib.hid hd
  clear h0 hls hd
  go_enter Tryd.func20, Tryd.ntmps20
  go_wp2_with fail
  refine (refBelow_any x l.length w hl0 (by omega) hx).mono ?_
  rintro e w1 ⟨rfl, rfl⟩
  have hm := belowK_lt x hl0
  obtain ⟨m, hme⟩ : ∃ m, belowK x l.length = m := ⟨_, rfl⟩
  have HME := Lib.hid hme
  rw [hme] at hm ⊢
  clear hme
  go_wp2_with fail
  refine (cloneLeaves_any ad c l w H0.out hl).mono ?_
  rintro e w2 ⟨v, rfl, hown, hb2⟩
  have HB2 := Lib.hid hb2
  rcases hown.2 with ⟨_, hn⟩ | ⟨g, cap, cur, rfl, hgB, hgb, hnc, hcm, _⟩
  · omega
  have hcell := hown.cellAt (m * 2 + 1) (by omega)
  have hfz := hown.frozenAt (m * 2 + 1)
  have hst := hown.stored (m * 2 + 1) (.string (bstr d))
  rw [← flat_set l m hm d] at hst
  have HST := Lib.hid hst
  have hlt2 : m * 2 + 1 < (l.flatMap leafCells).length := by rw [flat_len (f := leafCells) (sz := 2) (fun _ => rfl) l]; omega
  rw [List.getElem?_eq_getElem hlt2] at hcell
  generalize (l.flatMap leafCells)[m * 2 + 1] = u at *
  have HSB : Hid (Below w.heap.size w (w2.setCell ⟨g, m * 2 + 1, none⟩ (.string (bstr d)))) := Lib.hid (HB2.out.setCell (p := ⟨g, m * 2 + 1, none⟩) hgB _)
  unfold maxLen at hcm
  clear hown hst hb2 hgb
  have HP : Hid ((Rp.sl leafRp).ok (w2.setCell ⟨g, m * 2 + 1, none⟩ (.string (bstr d))) (· < (w2.setCell ⟨g, m * 2 + 1, none⟩ (.string (bstr d))).heap.size) [.slice (some ⟨g, 0, none⟩) l.length cap] (withD l m d)) := Lib.hid (by
    rw [withD, dif_pos hm]
    refine leaves_read HST.out.1 (fun s hs => ?_)
    rcases List.mem_or_eq_of_mem_set hs with hs | rfl
    · exact HLS.out s hs
    · exact ⟨(HLS.out _ (List.getElem_mem hm)).1, HD.out⟩)
  clear HST
  go_wp2_with fail
  go_ret2
  exact ⟨_, by rw [HME.out]; rfl, by rw [HME.out]; exact HP.out, HSB.out⟩
end Go.Proofs.YtnnoolemmnailaaDoor
