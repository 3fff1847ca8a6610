/-
  Places and Loads of chapter 11: what they answer, in plain words.
-/
import Derived.Test.YtdeeiifcjbmmiaaDoorPlD
import Derived.Test.YtdeeiifcjbmmiaaDoorItems
import Derived.Test.YtdeeiifcjbmmiaaDoorVMap
namespace Go.Proofs.YtdeeiifcjbmmiaaDoor
open Go.RowKit
set_option linter.unusedVariables false

theorem sites_nmP {s : List Site} (h : sitesFault s = 0) : ∀ x ∈ s, isNm x.name = true := by
  obtain ⟨hn, hl, _⟩ := sites_ok h
  intro x hx
  obtain ⟨i, hi, rfl⟩ := List.getElem_of_mem hx
  unfold sitesFault at h
  split at h
  · exact absurd h (by decide)
  split at h
  · exact absurd h (by decide)
  have := firstF_all h i hi
  cases e : isNm s[i].name with
  | true => rfl
  | false => rw [siteF_1 hi e] at this; exact absurd this (by decide)
theorem sites_room {s : List Site} (h : sitesFault s = 0) : ∀ x ∈ s, 0 ≤ x.room ∧ x.room ≤ 1000000 := by
  obtain ⟨hn, hl, _⟩ := sites_ok h
  intro x hx
  obtain ⟨i, hi, rfl⟩ := List.getElem_of_mem hx
  have hnm := sites_nmP h _ (List.getElem_mem hi)
  have hso := sites_sorted h
  unfold sitesFault at h
  split at h
  · exact absurd h (by decide)
  split at h
  · exact absurd h (by decide)
  have := firstF_all h i hi
  cases e : siteRange s[i] with
  | true =>
    unfold siteRange at e
    rw [Bool.and_eq_true, Bool.and_eq_true, Bool.and_eq_true, decide_eq_true_iff, decide_eq_true_iff, decide_eq_true_iff, decide_eq_true_iff] at e
    exact e.2
  | false =>
    have h2 : ¬ (0 < i ∧ sle s[i].name (s[i - 1]'(by omega)).name = true) := fun h2 => by
      rw [siteF_2 hi hnm h2.1 h2.2] at this
      exact absurd this (by decide)
    rw [siteF_3 hi hnm h2 e] at this
    exact absurd this (by decide)
/-- What 'places' asks of sites. -/
structure SOk (s : List Site) : Prop where
  nm : ∀ x ∈ s, x.name.length ≤ 40
  rise : s.Pairwise (fun a b => slt a.name b.name = true)
  pos : 0 < s.length
  few : s.length ≤ 50
theorem sok_of {s : List Site} (h : sitesFault s = 0) : SOk s := by
  obtain ⟨h0, hl, _⟩ := sites_ok h
  exact ⟨fun x hx => nm_len40 (sites_nmP h x hx), sites_sorted h, List.length_pos_iff.2 h0, hl⟩
theorem sok_inj {s : List Site} (h : SOk s) {i j : Nat} (hi : i < s.length) (hj : j < s.length) (e : s[i].name = s[j].name) : i = j := by
  rcases Nat.lt_trichotomy i j with hlt | he | hlt
  · exact absurd e (bl_ne (List.pairwise_iff_getElem.1 h.rise i j hi hj hlt))
  · exact he
  · exact absurd e.symm (bl_ne (List.pairwise_iff_getElem.1 h.rise j i hj hi hlt))
theorem plL_len (l : List Site) (item : List UInt8) (many : Nat) : (plL l item many).length ≤ many := by
  unfold plL
  rw [List.length_map, List.length_take]
  exact Nat.min_le_left _ _
theorem sok_2 {s : List Site} (h : SOk s) : ∀ x ∈ s, x.name.length ≤ 1000 := fun x hx => by have := h.nm x hx; omega
theorem plL_mem {s : List Site} (h : SOk s) {item : List UInt8} {many : Nat} {x : List UInt8} (hx : x ∈ plL s item many) : ∃ y ∈ s, y.name = x := by
  obtain ⟨z, hz, rfl⟩ := List.mem_map.1 hx
  have hz := List.mem_of_mem_take hz
  have hz := (insAll_ord (item := item) _ (sbs_rise (sok_2 h) h.rise)).1.mem_iff.1 hz
  obtain ⟨y, hy, rfl⟩ := List.mem_map.1 hz
  exact ⟨y, hy, by rw [toSb_val (sok_2 h y hy)]⟩
/-- The sites of each item, one after the other. -/
def plAll (s : List Site) (its : List (List UInt8)) (many : Nat) : List (List UInt8) := its.flatMap fun it => plL s it many
theorem plAll_next (s : List Site) (its : List (List UInt8)) (many : Nat) {k : Nat} (h : k < its.length) : plAll s (its.take (k + 1)) many = plAll s (its.take k) many ++ plL s its[k] many := by
  unfold plAll
  rw [List.take_succ_eq_append_getElem h, List.flatMap_append, List.flatMap_cons, List.flatMap_nil, List.append_nil]
theorem plAll_len (s : List Site) (many : Nat) (hm : many ≤ 50) : ∀ its : List (List UInt8), (plAll s its many).length ≤ 50 * its.length
  | [] => by simp [plAll]
  | it :: its => by
    have h1 := plL_len s it many
    have h2 := plAll_len s many hm its
    unfold plAll at h2 ⊢
    rw [List.flatMap_cons, List.length_append, List.length_cons]
    omega
def ldOf (ks : List (List UInt8)) (x : Site) : Site := ⟨x.name, (ks.count x.name : Int), max 0 ((ks.count x.name : Int) - x.room)⟩
def ldOut (s : List Site) (ks : List (List UInt8)) : List Site := s.map (ldOf ks)
def ldFault (s : List Site) (its : List (List UInt8)) (many : Int) : Int := if sitesFault s ≠ 0 then sitesFault s else itemsFault its many
def ldL (s : List Site) (its : List (List UInt8)) (many : Int) : List Site := if ldFault s its many = 0 then ldOut s (plAll s its many.toNat) else []
def LdPost (s : List Site) (its : List (List UInt8)) (many : Int) (w : World) (e : Ending) (w' : World) : Prop :=
  ∃ v, e = .returned (.tuple #[v, .int .i64 (ldFault s its many)]) ∧ (Rp.sl siteRp).ok w' (· < w'.heap.size) [v] (ldL s its many) ∧ Below w.heap.size w w'
theorem LdPost.bad {s : List Site} {its : List (List UInt8)} {many f : Int} {w w' : World} (h : ldFault s its many = f) (h0 : f ≠ 0) (hb : Below w.heap.size w w') : LdPost s its many w (.returned (.tuple #[.slice none 0 0, .int .i64 f])) w' :=
  ⟨_, by rw [h], by rw [ldL, if_neg (by rw [h]; exact h0)]; exact Rp.sl_nil _ _ _, hb⟩
def plT (s : List Site) (item : List UInt8) (many : Int) : List (List UInt8) := if ldFault s [item] many = 0 then plL s item many.toNat else []
def PTPost (s : List Site) (item : List UInt8) (many : Int) (w : World) (e : Ending) (w' : World) : Prop :=
  ∃ v, e = .returned (.tuple #[v, .int .i64 (ldFault s [item] many)]) ∧ (Rp.sl Rp.str).ok w' (· < w'.heap.size) [v] ((plT s item many).map bstr) ∧ Below w.heap.size w w'
theorem PTPost.bad {s : List Site} {item : List UInt8} {many f : Int} {w w' : World} (h : ldFault s [item] many = f) (h0 : f ≠ 0) (hb : Below w.heap.size w w') : PTPost s item many w (.returned (.tuple #[.slice none 0 0, .int .i64 f])) w' :=
  ⟨_, by rw [h], by rw [plT, if_neg (by rw [h]; exact h0)]; exact Rp.sl_nil _ _ _, hb⟩
theorem names_of_own {w : World} {B : Nat} {v : Value} {l : List (List UInt8)} {n : Nat} (h : w.ownsRow B 9 1 v n (l.map fun t => .string (bstr t))) (hl : ∀ x ∈ l, x.length ≤ maxLen) : (Rp.sl Rp.str).ok w (· < w.heap.size) [v] (l.map bstr) :=
  Rp.str_own (by rw [List.map_map]; exact h) (fun x hx => by obtain ⟨y, hy, rfl⟩ := List.mem_map.1 hx; rw [bstr_size]; exact hl y hy) (fun g hg => (h.lt g hg).2)
/-! ### A map of counts -/
def CntF (ks : List (List UInt8)) (f : Lit → Option Value) : Prop := ∀ k, f (.string k) = if ks.count k = 0 then none else some (.int .i64 (ks.count k : Int))
theorem cntF_nil : CntF [] (fun _ => none) := fun k => by simp
theorem cntF_get {ks : List (List UInt8)} {f : Lit → Option Value} (h : CntF ks f) (k : List UInt8) : (f (.string k)).getD (.int .i64 0) = .int .i64 (ks.count k : Int) := by
  rw [h k]
  split
  · rename_i e; rw [e]; rfl
  · rfl
theorem cntF_put {ks : List (List UInt8)} {f : Lit → Option Value} (h : CntF ks f) (k : List UInt8) : CntF (ks ++ [k]) (fun y => if y.sameKey (.string k) then some (.int .i64 ((ks.count k : Int) + 1)) else f y) := by
  intro x
  by_cases e : x = k
  · subst e
    dsimp only
    rw [if_pos (WideAt.sameKey_self (by trivial)), List.count_append, List.count_singleton_self, if_neg (by omega)]
    simp
  · dsimp only
    rw [if_neg (by rw [Maps.sameKey_ne (fun e2 => e (by injection e2))]; simp), h x, List.count_append, List.count_singleton, show (k == x) = false from by simpa using Ne.symm e]
    simp
theorem sok_clean {s : List Site} (h : ∀ x ∈ s, 0 ≤ x.room ∧ x.room ≤ 1000000) {ks : List (List UInt8)} (hk : ks.length ≤ 150000) (hn : ∀ x ∈ s, x.name.length ≤ 40) : ∀ y ∈ ldOut s ks, y.name.length ≤ maxLen ∧ (Lit.int .i64 y.weight).wf = true ∧ (Lit.int .i64 y.room).wf = true := by
  intro y hy
  obtain ⟨x, hx, rfl⟩ := List.mem_map.1 hy
  have h1 := hn x hx
  have h2 := h x hx
  have h3 := List.count_le_length (a := x.name) (l := ks)
  unfold ldOf maxLen
  refine ⟨by show x.name.length ≤ _; omega, WalkArith.wf_i64 (by simp only []; omega), WalkArith.wf_i64 (by simp only []; omega)⟩
end Go.Proofs.YtdeeiifcjbmmiaaDoor
