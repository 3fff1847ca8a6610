/-
  Moves of chapter 11: what is answered, in plain words; how a list of moves reads.
-/
import Derived.Test.YtdeeiifcjbmmiaaDoorLoadP
import Derived.Test.YtdeeiifcjbmmiaaDoorValS
import Derived.Deep.QuietTactic
import Derived.BigQuiet
namespace Go.Proofs.YtdeeiifcjbmmiaaDoor
open Go.RowKit
set_option linter.unusedVariables false
set_option linter.unusedSimpArgs false

structure Mv where
  item : List UInt8
  frm : List UInt8
  to_ : List UInt8
deriving Inhabited
def mvCells (m : Mv) : List Value := [.string (bstr m.item), .string (bstr m.frm), .string (bstr m.to_)]
def mvRp : Rp Mv := (Rp.pair Rp.str (Rp.pair Rp.str Rp.str)).via fun r => (bstr r.item, bstr r.frm, bstr r.to_)
def MvSz (m : Mv) : Prop := m.item.length ≤ maxLen ∧ m.frm.length ≤ maxLen ∧ m.to_.length ≤ maxLen
theorem mv_open {w : World} {S : Nat → Prop} {us : List Value} {c : Mv} (h : mvRp.ok w S us c) : us = mvCells c ∧ MvSz c := by
  obtain ⟨_, _, rfl, ⟨rfl, h1⟩, ⟨_, _, rfl, ⟨rfl, h2⟩, ⟨rfl, h3⟩⟩⟩ := h
  rw [bstr_size] at h1 h2 h3
  exact ⟨rfl, h1, h2, h3⟩
theorem mv_mk {w : World} {S : Nat → Prop} {c : Mv} (h : MvSz c) : mvRp.ok w S (mvCells c) c :=
  ⟨[_], [_, _], rfl, ⟨rfl, by rw [bstr_size]; exact h.1⟩, [_], [_], rfl, ⟨rfl, by rw [bstr_size]; exact h.2.1⟩, ⟨rfl, by rw [bstr_size]; exact h.2.2⟩⟩
theorem mvs_read {w : World} {B : Nat} {v : Value} {l : List Mv} {n : Nat} (h : w.ownsRow B 33 3 v n (l.flatMap mvCells)) (hl : ∀ s ∈ l, MvSz s) : (Rp.sl mvRp).ok w (· < w.heap.size) [v] l :=
  Rp.of_ownN (R := mvRp) (by decide) (fun _ => rfl) h (fun g hg => (h.lt g hg).2) (fun s hs => mv_mk (hl s hs))
theorem mv_at {w : World} {S : Nat → Prop} {v : Value} {l : List Mv} (h : (Rp.sl mvRp).ok w S [v] l) {k : Nat} (hk : k < l.length) :
    ∃ ad c, v = .slice (some ad) l.length c ∧ S ad.block ∧ w.cell? (ad.add (k * 3)) = some (.string (bstr l[k].item)) ∧ w.cell? ⟨(ad.add (k * 3)).block, (ad.add (k * 3)).off + 1, none⟩ = some (.string (bstr l[k].frm)) ∧
      w.cell? ⟨(ad.add (k * 3)).block, (ad.add (k * 3)).off + 2, none⟩ = some (.string (bstr l[k].to_)) ∧ MvSz l[k] := by
  obtain ⟨A, c, rfl, _⟩ := Rp.sl_open h
  obtain ⟨ad, us, rfl, _, hb, hu, hcell⟩ := Rp.sl_at h hk
  obtain ⟨rfl, hz⟩ := mv_open hu
  have c0 := hcell 0 _ rfl
  have c1 := hcell 1 _ rfl
  have c2 := hcell 2 _ rfl
  rw [add_fld _ _ _ (by omega)] at c1 c2
  exact ⟨ad, c, rfl, hb, c0, c1, c2, hz⟩
theorem mv_info : (Tryd.prog.info? 33).map (fun i => (i.zero, i.size, i.bytes)) = some (some (.agg #[.string ⟨#[]⟩, .string ⟨#[]⟩, .string ⟨#[]⟩]), 3, 48) := by kernel_rfl
/-! ### Sorted names -/
def srtN (zs : List (List UInt8)) : List (List UInt8) := zs.mergeSort fun x y => decide (x ≤ y)
theorem srtN_perm (zs : List (List UInt8)) : (srtN zs).Perm zs := List.mergeSort_perm _ _
theorem srtN_pair (zs : List (List UInt8)) : (srtN zs).Pairwise (fun a b => Op.bytesLess b a = false) := by
  have h := List.pairwise_mergeSort (le := fun x y : List UInt8 => decide (x ≤ y)) (fun a b c h1 h2 => by simp only [decide_eq_true_eq] at *; exact List.le_trans h1 h2) (fun a b => by simp only [Bool.or_eq_true, decide_eq_true_eq]; exact List.le_total a b) zs
  exact h.imp (fun {a b} h => by
    rw [decide_eq_true_eq] at h
    rw [bytesLess_eq]
    exact decide_eq_false (fun e => absurd h (List.not_le.2 e)))
theorem srtN_is {ts zs : List (List UInt8)} (hp : ts.Perm zs) (hs : ts.Pairwise (fun a b => Op.bytesLess b a = false)) : ts = srtN zs := by
  refine List.Perm.eq_of_pairwise (le := fun a b => Op.bytesLess b a = false) (fun a b _ _ h3 h4 => ?_) hs (srtN_pair zs) (hp.trans (srtN_perm zs).symm)
  rcases slt_triS a b with h | h | h
  · have h' : Op.bytesLess a b = true := h
    rw [h4] at h'; exact absurd h' (by decide)
  · exact h
  · have h' : Op.bytesLess b a = true := h
    rw [h3] at h'; exact absurd h' (by decide)
/-! ### Where a copy comes from -/
def frStep (aft : List Site) (f s : List UInt8) : List UInt8 := if f = [] ∧ 0 ≤ siteIdx aft s then s else f
def fromF (aft : List Site) (l : List (List UInt8)) : List UInt8 := l.foldl (frStep aft) []
theorem fromF_next (aft : List Site) (l : List (List UInt8)) {k : Nat} (h : k < l.length) : fromF aft (l.take (k + 1)) = frStep aft (fromF aft (l.take k)) l[k] := by
  unfold fromF
  rw [List.take_succ_eq_append_getElem h, List.foldl_append]; rfl
theorem frStep_stay (aft : List Site) {f : List UInt8} (hf : f ≠ []) : ∀ l : List (List UInt8), l.foldl (frStep aft) f = f
  | [] => rfl
  | s :: l => by
    rw [List.foldl_cons, show frStep aft f s = f from if_neg (fun h => hf h.1)]
    exact frStep_stay aft hf l
theorem fromF_miss (aft : List Site) : ∀ {l : List (List UInt8)}, (∀ y ∈ l, ¬ 0 ≤ siteIdx aft y) → fromF aft l = []
  | [], _ => rfl
  | s :: l, h => by
    unfold fromF
    rw [List.foldl_cons, show frStep aft [] s = [] from if_neg (fun e => h s (List.mem_cons_self ..) e.2)]
    exact fromF_miss aft (fun y hy => h y (List.mem_cons_of_mem _ hy))
theorem fromF_hit (aft : List Site) {l : List (List UInt8)} {k : Nat} (hk : k < l.length) (hm : ∀ y ∈ l.take k, ¬ 0 ≤ siteIdx aft y) (h : 0 ≤ siteIdx aft l[k]) (hn : l[k] ≠ []) : fromF aft l = l[k] := by
  have e := fromF_next aft l hk
  rw [fromF_miss aft hm, show frStep aft [] l[k] = l[k] from if_pos ⟨rfl, h⟩] at e
  unfold fromF at e ⊢
  conv => lhs; rw [← List.take_append_drop (k + 1) l, List.foldl_append, e]
  exact frStep_stay aft hn _
theorem frStep_mem (aft : List Site) {f s : List UInt8} {n : Nat} (hf : f.length ≤ n) (hs : s.length ≤ n) : (frStep aft f s).length ≤ n := by
  unfold frStep
  split
  · exact hs
  · exact hf
theorem fromF_len (aft : List Site) {n : Nat} : ∀ {l : List (List UInt8)} {f : List UInt8}, f.length ≤ n → (∀ y ∈ l, y.length ≤ n) → (l.foldl (frStep aft) f).length ≤ n
  | [], f, hf, _ => hf
  | s :: l, f, hf, h => by
    rw [List.foldl_cons]
    exact fromF_len aft (frStep_mem aft hf (h s (List.mem_cons_self ..))) (fun y hy => h y (List.mem_cons_of_mem _ hy))
/-! ### The moves of an item -/
def mkMv (it f x : List UInt8) : Mv := ⟨it, f, x⟩
def newL (was ts : List (List UInt8)) : List (List UInt8) := ts.filter fun x => decide (¬ x ∈ was)
def mvIn (bef aft : List Site) (M : Nat) (it : List UInt8) : List Mv := (newL (plL bef it M) (srtN (plL aft it M))).map (mkMv it (fromF aft (plL bef it M)))
def mvAll (bef aft : List Site) (its : List (List UInt8)) (M : Nat) : List Mv := its.flatMap (mvIn bef aft M)
theorem mvAll_next (bef aft : List Site) (its : List (List UInt8)) (M : Nat) {k : Nat} (h : k < its.length) : mvAll bef aft (its.take (k + 1)) M = mvAll bef aft (its.take k) M ++ mvIn bef aft M its[k] := by
  unfold mvAll
  rw [List.take_succ_eq_append_getElem h, List.flatMap_append, List.flatMap_cons, List.flatMap_nil, List.append_nil]
theorem mvIn_len (bef aft : List Site) (M : Nat) (it : List UInt8) : (mvIn bef aft M it).length ≤ M := by
  unfold mvIn newL
  rw [List.length_map]
  refine Nat.le_trans (List.length_filter_le _ _) ?_
  rw [(srtN_perm _).length_eq]
  exact plL_len _ _ _
theorem mvAll_len (bef aft : List Site) (M : Nat) (hm : M ≤ 50) : ∀ its : List (List UInt8), (mvAll bef aft its M).length ≤ 50 * its.length
  | [] => by simp [mvAll]
  | it :: its => by
    have h1 := mvIn_len bef aft M it
    have h2 := mvAll_len bef aft M hm its
    unfold mvAll at h2 ⊢
    rw [List.flatMap_cons, List.length_append, List.length_cons]
    omega
theorem newL_next (was ts : List (List UInt8)) {j : Nat} (h : j < ts.length) : newL was (ts.take (j + 1)) = newL was (ts.take j) ++ (if ts[j] ∈ was then [] else [ts[j]]) := by
  unfold newL
  rw [List.take_succ_eq_append_getElem h, List.filter_append]
  congr 1
  by_cases e : ts[j] ∈ was
  · rw [if_pos e]; simp [e]
  · rw [if_neg e]; simp [e]
theorem mvIn_mem {bef aft : List Site} (hb : SOk bef) (ha : SOk aft) {M : Nat} {it : List UInt8} (hi : it.length ≤ 40) {m : Mv} (h : m ∈ mvIn bef aft M it) : MvSz m := by
  obtain ⟨x, hx, rfl⟩ := List.mem_map.1 h
  have hx := (List.mem_filter.1 hx).1
  have hx := (srtN_perm _).mem_iff.1 hx
  obtain ⟨y, hy, rfl⟩ := plL_mem ha hx
  have h1 := ha.nm y hy
  have h2 : (fromF aft (plL bef it M)).length ≤ 40 := fromF_len aft (Nat.zero_le _) (fun z hz => by obtain ⟨q, hq, rfl⟩ := plL_mem hb hz; exact hb.nm q hq)
  unfold mkMv
  exact ⟨by show it.length ≤ _; unfold maxLen; omega, by show (fromF aft (plL bef it M)).length ≤ _; unfold maxLen; omega, by show y.name.length ≤ _; unfold maxLen; omega⟩
def mvFault (bef aft : List Site) (its : List (List UInt8)) (many : Int) : Int := if sitesFault bef ≠ 0 then sitesFault bef else if sitesFault aft ≠ 0 then sitesFault aft else itemsFault its many
def mvL (bef aft : List Site) (its : List (List UInt8)) (many : Int) : List Mv := if mvFault bef aft its many = 0 then mvAll bef aft its many.toNat else []
def MvPost (bef aft : List Site) (its : List (List UInt8)) (many : Int) (w : World) (e : Ending) (w' : World) : Prop :=
  ∃ v, e = .returned (.tuple #[v, .int .i64 (mvFault bef aft its many)]) ∧ (Rp.sl mvRp).ok w' (· < w'.heap.size) [v] (mvL bef aft its many) ∧ Below w.heap.size w w'
theorem MvPost.bad {bef aft : List Site} {its : List (List UInt8)} {many f : Int} {w w' : World} (h : mvFault bef aft its many = f) (h0 : f ≠ 0) (hb : Below w.heap.size w w') : MvPost bef aft its many w (.returned (.tuple #[.slice none 0 0, .int .i64 f])) w' :=
  ⟨_, by rw [h], by rw [mvL, if_neg (by rw [h]; exact h0)]; exact Rp.sl_nil _ _ _, hb⟩
theorem mvF_1 {bef aft : List Site} {its : List (List UInt8)} {many : Int} (h : sitesFault bef ≠ 0) : mvFault bef aft its many = sitesFault bef := if_pos h
theorem mvF_2 {bef aft : List Site} {its : List (List UInt8)} {many : Int} (h : sitesFault bef = 0) (h2 : sitesFault aft ≠ 0) : mvFault bef aft its many = sitesFault aft := by
  rw [mvFault, if_neg (by rw [h]; decide), if_pos h2]
theorem mvF_3 {bef aft : List Site} {its : List (List UInt8)} {many : Int} (h : sitesFault bef = 0) (h2 : sitesFault aft = 0) : mvFault bef aft its many = itemsFault its many := by
  rw [mvFault, if_neg (by rw [h]; decide), if_neg (by rw [h2]; decide)]
theorem MvPost.good {bef aft : List Site} {its : List (List UInt8)} {M B n : Nat} {w w' : World} {v : Value} (hb : SOk bef) (ha : SOk aft) (hi : ∀ x ∈ its, x.length ≤ 40) (h : mvFault bef aft its (M : Int) = 0) (hO : w'.ownsRow B 33 3 v n ((mvAll bef aft its M).flatMap mvCells)) (hw : Below w.heap.size w w') : MvPost bef aft its (M : Int) w (.returned (.tuple #[v, .int .i64 0])) w' :=
  ⟨_, by rw [h], by
    rw [mvL, if_pos h, Int.toNat_natCast]
    refine mvs_read hO (fun m hm => ?_)
    obtain ⟨it, hit, hm⟩ := List.mem_flatMap.1 hm
    exact mvIn_mem hb ha (hi it hit) hm, hw⟩
end Go.Proofs.YtdeeiifcjbmmiaaDoor
