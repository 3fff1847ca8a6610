/-
  What the changes between two lists of lines are: plain facts.
-/
import Derived.Test.YtofahmdjhpbecaaProg
import Derived.Test.YtofahmdjhpbecaaLcs
import Derived.Test.YtofahmdjhpbecaaAdd
namespace Go.Proofs.Ytofahmdjhpbecaa
open Go.RowKit
set_option linter.unusedVariables false
set_option linter.unusedSimpArgs false

def chGo (a b : List (List UInt8)) (out : List Ch) : List Ch :=
  match a, b with
  | [], [] => out
  | [], y :: b => chGo [] b (addL out 3 y)
  | x :: a, [] => chGo a [] (addL out 2 x)
  | x :: a, y :: b => if x = y ∧ lcs a b + 1 = lcs (x :: a) (y :: b) then chGo a b (addL out 1 x) else if lcs a (y :: b) = lcs (x :: a) (y :: b) then chGo a (y :: b) (addL out 2 x) else chGo (x :: a) b (addL out 3 y)
termination_by a.length + b.length
def changesL (a b : List (List UInt8)) : List Ch := chGo a b []

section
variable {a b : List (List UInt8)} {i k : Nat} {out : List Ch}
theorem chGo_end (h1 : a.length ≤ i) (h2 : b.length ≤ k) : chGo (a.drop i) (b.drop k) out = out := by
  rw [List.drop_of_length_le h1, List.drop_of_length_le h2, chGo]
theorem chGo_keep (h1 : i < a.length) (h2 : k < b.length) (e : a[i] = b[k]) (hd : lcsAt a b (i + 1) (k + 1) + 1 = lcsAt a b i k) :
    chGo (a.drop i) (b.drop k) out = chGo (a.drop (i + 1)) (b.drop (k + 1)) (addL out 1 a[i]) := by
  unfold lcsAt at hd
  rw [List.drop_eq_getElem_cons h1, List.drop_eq_getElem_cons h2] at hd ⊢
  rw [chGo, if_pos ⟨e, hd⟩]
theorem chGo_gone (h1 : i < a.length) (h2 : k < b.length) (e : ¬ (a[i] = b[k] ∧ lcsAt a b (i + 1) (k + 1) + 1 = lcsAt a b i k)) (hd : lcsAt a b (i + 1) k = lcsAt a b i k) :
    chGo (a.drop i) (b.drop k) out = chGo (a.drop (i + 1)) (b.drop k) (addL out 2 a[i]) := by
  unfold lcsAt at hd e
  rw [List.drop_eq_getElem_cons h1, List.drop_eq_getElem_cons h2] at hd e ⊢
  rw [chGo, if_neg e, if_pos hd]
theorem chGo_new (h1 : i < a.length) (h2 : k < b.length) (e : ¬ (a[i] = b[k] ∧ lcsAt a b (i + 1) (k + 1) + 1 = lcsAt a b i k)) (hd : lcsAt a b (i + 1) k ≠ lcsAt a b i k) :
    chGo (a.drop i) (b.drop k) out = chGo (a.drop i) (b.drop (k + 1)) (addL out 3 b[k]) := by
  unfold lcsAt at hd e
  rw [List.drop_eq_getElem_cons h1, List.drop_eq_getElem_cons h2] at hd e ⊢
  rw [chGo, if_neg e, if_neg hd]
theorem chGo_left (h1 : i < a.length) (h2 : b.length ≤ k) : chGo (a.drop i) (b.drop k) out = chGo (a.drop (i + 1)) (b.drop k) (addL out 2 a[i]) := by
  rw [List.drop_of_length_le h2, List.drop_eq_getElem_cons h1, chGo]
theorem chGo_right (h1 : a.length ≤ i) (h2 : k < b.length) : chGo (a.drop i) (b.drop k) out = chGo (a.drop i) (b.drop (k + 1)) (addL out 3 b[k]) := by
  rw [List.drop_of_length_le h1, List.drop_eq_getElem_cons h2, chGo]
end
/-- How many lines there are in all. -/
def chSum (l : List Ch) : Nat := (l.map fun c => c.ls.length).sum
theorem chSum_add : ∀ (l : List Ch) (k : Int) (s : List UInt8), chSum (addL l k s) = chSum l + 1
  | [], k, s => by simp [addL, chSum]
  | [c], k, s => by rw [addL]; split <;> simp [chSum]
  | c :: d :: l, k, s => by
    have := chSum_add (d :: l) k s
    rw [addL]; simp only [chSum, List.map_cons, List.sum_cons] at this ⊢; omega
theorem addL_len : ∀ (l : List Ch) (k : Int) (s : List UInt8), (addL l k s).length ≤ l.length + 1
  | [], k, s => by simp [addL]
  | [c], k, s => by rw [addL]; split <;> simp
  | c :: d :: l, k, s => by have := addL_len (d :: l) k s; rw [addL]; simp only [List.length_cons] at this ⊢; omega
theorem chSum_mem {l : List Ch} {c : Ch} (h : c ∈ l) : c.ls.length ≤ chSum l := by
  induction l with
  | nil => cases h
  | cons d l ih =>
    simp only [chSum, List.map_cons, List.sum_cons]
    rcases List.mem_cons.1 h with rfl | h
    · omega
    · have := ih h; simp only [chSum] at this; omega
/-- All that stands in changes: kinds 1 to 3, lines of these. -/
def ChOf (L : List UInt8 → Prop) (l : List Ch) : Prop := ∀ c ∈ l, 1 ≤ c.kind ∧ c.kind ≤ 3 ∧ c.ls ≠ [] ∧ ∀ s ∈ c.ls, L s
theorem ChOf.add {L : List UInt8 → Prop} : ∀ {l : List Ch} (_ : ChOf L l) {k : Int} {s : List UInt8} (_ : 1 ≤ k) (_ : k ≤ 3) (_ : L s), ChOf L (addL l k s)
  | [], _, k, s, h1, h2, hs => by
    intro c hc
    rw [addL, List.mem_singleton] at hc
    subst hc
    exact ⟨h1, h2, by simp, fun x hx => by rw [List.mem_singleton.1 hx]; exact hs⟩
  | [c], h, k, s, h1, h2, hs => by
    intro d hd
    rw [addL] at hd
    split at hd
    · rw [List.mem_singleton] at hd
      subst hd
      obtain ⟨g1, g2, g3, g4⟩ := h c (by simp)
      refine ⟨g1, g2, by simp, fun x hx => ?_⟩
      rcases List.mem_append.1 hx with h | h
      · exact g4 x h
      · rw [List.mem_singleton.1 h]; exact hs
    · rcases List.mem_cons.1 hd with rfl | hd
      · exact h _ (by simp)
      · rw [List.mem_singleton.1 hd]
        exact ⟨h1, h2, by simp, fun x hx => by rw [List.mem_singleton.1 hx]; exact hs⟩
  | c :: d :: l, h, k, s, h1, h2, hs => by
    intro e he
    rw [addL] at he
    rcases List.mem_cons.1 he with rfl | he
    · exact h _ (by simp)
    · exact ChOf.add (l := d :: l) (fun x hx => h x (List.mem_cons_of_mem _ hx)) h1 h2 hs e he
def chRp : Rp Ch := (Rp.pair (Rp.int .i64) (Rp.sl Rp.str)).via fun c => (c.kind, c.ls.map bstr)
theorem ch_mk {w : World} {S : Nat → Prop} {c : Ch} {v : Value} (h1 : (Lit.int .i64 c.kind).wf = true) (h3 : (Rp.sl Rp.str).ok w S [v] (c.ls.map bstr)) : chRp.ok w S [.int .i64 c.kind, v] c :=
  ⟨[_], [_], rfl, ⟨rfl, h1⟩, h3⟩
theorem ch_open {w : World} {S : Nat → Prop} {us : List Value} {c : Ch} (h : chRp.ok w S us c) : ∃ v, us = [.int .i64 c.kind, v] ∧ (Rp.sl Rp.str).ok w S [v] (c.ls.map bstr) ∧ (Lit.int .i64 c.kind).wf = true := by
  obtain ⟨_, _, rfl, ⟨rfl, h1⟩, h3⟩ := h
  have := (Rp.sl Rp.str).len h3
  obtain ⟨v, rfl⟩ := List.length_eq_one_iff.1 this
  exact ⟨v, rfl, h3, h1⟩
theorem nest_ch {w : World} {B E E2 : Nat} {v : Value} {out : List Ch} (h : Nest chHd chIn 2 E E2 B w v out) (hs : ChOf (fun s => s.length ≤ maxLen) out) : (Rp.sl chRp).ok w (· < w.heap.size) [v] out := by
  refine Nest.rp (R := chRp) (hd := chHd) (inn := chIn) (sz := 2) (fun _ => rfl) rfl h (fun g _ hg => hg) fun c hc u hu => ?_
  obtain ⟨g1, g2, _, g4⟩ := hs c hc
  refine ch_mk (WalkArith.wf_i64 (by omega)) (Rp.str_own (n := (chIn c).length) (B := B) (e := E2) (by rw [List.map_map]; exact hu) (fun x hx => ?_) (fun g hg => (hu.lt g hg).2))
  obtain ⟨s, hs, rfl⟩ := List.mem_map.1 hx
  exact g4 s hs
theorem add_succ (a : Addr) (i : Nat) : a.add (i + 1) = ⟨a.block, a.off + (i + 1), none⟩ := by unfold Addr.add; rw [if_neg (by omega)]
/-- The table of what can stay, read at a row. -/
theorem tab_row {a b : List (List UInt8)} {w : World} {S : Nat → Prop} {A : Option Addr} {n c : Nat} (h : (Rp.sl (Rp.sl (Rp.int .i64))).ok w S [.slice A n c] (lcsTab a b)) {i : Nat} (hi : i ≤ a.length) :
    ∃ ad adi ci, A = some ad ∧ n = a.length + 1 ∧ w.cell? (ad.add i) = some (.slice (some adi) (b.length + 1) ci) ∧ b.length + 1 ≤ ci ∧ ci ≤ maxLen ∧ ∀ k, k ≤ b.length → w.cell? (adi.add k) = some (.int .i64 (lcsAt a b i k : Nat)) := by
  have hlen : (lcsTab a b).length = a.length + 1 := by simp [lcsTab]
  obtain ⟨A0, c0, e0, _⟩ := Rp.sl_open h
  injection e0 with _ e0 _
  obtain ⟨ad, u, hA, _, hu, hcell⟩ := Rp.sl_at1 rfl h (k := i) (by rw [hlen]; omega)
  have e1 : (lcsTab a b)[i]'(by rw [hlen]; omega) = (List.range (b.length + 1)).map fun k => (lcsAt a b i k : Int) := by simp [lcsTab]
  rw [e1] at hu
  obtain ⟨A2, c2, rfl, h2, h3, h4⟩ := Rp.sl_open hu
  rw [List.length_map, List.length_range] at h2 hcell hu
  obtain ⟨adi, _, e2, _⟩ := Rp.sl_at1 rfl hu (k := 0) (by simp)
  subst e2
  refine ⟨ad, adi, c2, hA, by rw [e0, hlen], hcell, h2, h3, fun k hk => ?_⟩
  obtain ⟨ad', u, e3, _, hu2, hc⟩ := Rp.sl_at1 rfl hu (k := k) (by simp; omega)
  injection e3 with e3
  subst e3
  obtain ⟨hu2, _⟩ := hu2
  injection hu2 with hu2
  rw [hc, hu2]; simp
end Go.Proofs.Ytofahmdjhpbecaa
