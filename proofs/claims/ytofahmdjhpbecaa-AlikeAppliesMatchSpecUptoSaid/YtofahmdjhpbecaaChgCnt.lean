/-
  How many lines stay, go and come in changes: plain facts.
-/
import Derived.Test.YtofahmdjhpbecaaChgPlain
namespace Go.Proofs.Ytofahmdjhpbecaa
open Go.RowKit
set_option linter.unusedVariables false
set_option linter.unusedSimpArgs false

/-- How many lines are of a kind. -/
def cnt (l : List Ch) (k : Int) : Nat := (l.map fun c => if c.kind = k then c.ls.length else 0).sum
theorem cnt_nil (k : Int) : cnt [] k = 0 := rfl
theorem cnt_cons (c : Ch) (l : List Ch) (k : Int) : cnt (c :: l) k = (if c.kind = k then c.ls.length else 0) + cnt l k := by simp [cnt]
theorem cnt_add : ∀ (l : List Ch) (k : Int) (s : List UInt8) (j : Int), cnt (addL l k s) j = cnt l j + if k = j then 1 else 0
  | [], k, s, j => by simp [addL, cnt]
  | [c], k, s, j => by
    rw [addL]
    by_cases h : c.kind = k
    · rw [if_pos h]
      subst h
      by_cases hj : c.kind = j <;> simp [cnt, hj]
    · rw [if_neg h]
      by_cases hj : c.kind = j <;> by_cases hk : k = j <;> simp [cnt, hj, hk]
  | c :: d :: l, k, s, j => by
    have := cnt_add (d :: l) k s j
    rw [addL, cnt_cons, this, cnt_cons c]; omega
theorem chGo_cnt : ∀ (a b : List (List UInt8)) (out : List Ch), cnt (chGo a b out) 1 = cnt out 1 + lcs a b ∧ cnt (chGo a b out) 2 + lcs a b = cnt out 2 + a.length ∧ cnt (chGo a b out) 3 + lcs a b = cnt out 3 + b.length
  | [], [], out => by rw [chGo, lcs_nil]; simp
  | [], y :: b, out => by
    have := chGo_cnt [] b (addL out 3 y)
    rw [chGo, lcs_nil]
    rw [lcs_nil] at this
    simp only [cnt_add] at this
    simp at this ⊢; omega
  | x :: a, [], out => by
    have := chGo_cnt a [] (addL out 2 x)
    rw [chGo, lcs_nil']
    rw [lcs_nil'] at this
    simp only [cnt_add] at this
    simp at this ⊢; omega
  | x :: a, y :: b, out => by
    rw [chGo]
    by_cases h1 : x = y ∧ lcs a b + 1 = lcs (x :: a) (y :: b)
    · rw [if_pos h1]
      have := chGo_cnt a b (addL out 1 x)
      simp only [cnt_add] at this
      simp at this ⊢; omega
    · rw [if_neg h1]
      by_cases h2 : lcs a (y :: b) = lcs (x :: a) (y :: b)
      · rw [if_pos h2]
        have := chGo_cnt a (y :: b) (addL out 2 x)
        simp only [cnt_add] at this
        simp at this ⊢; omega
      · rw [if_neg h2]
        have := chGo_cnt (x :: a) b (addL out 3 y)
        have hl : lcs (x :: a) (y :: b) = lcs (x :: a) b := by
          have hc := lcs_cons x y a b
          by_cases hxy : x = y
          · rw [if_pos hxy] at hc
            have h3 : ¬ lcs a b + 1 = lcs (x :: a) (y :: b) := fun e => h1 ⟨hxy, e⟩
            omega
          · rw [if_neg hxy] at hc; omega
        simp only [cnt_add] at this
        simp at this ⊢; omega
termination_by a b => a.length + b.length
theorem changesL_cnt (a b : List (List UInt8)) : cnt (changesL a b) 1 = lcs a b ∧ cnt (changesL a b) 2 + lcs a b = a.length ∧ cnt (changesL a b) 3 + lcs a b = b.length := by
  have := chGo_cnt a b []
  simp only [cnt_nil, Nat.zero_add] at this
  exact this
theorem chGo_of {L : List UInt8 → Prop} : ∀ (a b : List (List UInt8)) (out : List Ch), (∀ s ∈ a, L s) → (∀ s ∈ b, L s) → ChOf L out → ChOf L (chGo a b out)
  | [], [], out, _, _, h => by rw [chGo]; exact h
  | [], y :: b, out, ha, hb, h => by rw [chGo]; exact chGo_of [] b _ ha (fun s hs => hb s (by simp [hs])) (h.add (by decide) (by decide) (hb y (by simp)))
  | x :: a, [], out, ha, hb, h => by rw [chGo]; exact chGo_of a [] _ (fun s hs => ha s (by simp [hs])) hb (h.add (by decide) (by decide) (ha x (by simp)))
  | x :: a, y :: b, out, ha, hb, h => by
    rw [chGo]
    split
    · exact chGo_of a b _ (fun s hs => ha s (by simp [hs])) (fun s hs => hb s (by simp [hs])) (h.add (by decide) (by decide) (ha x (by simp)))
    · split
      · exact chGo_of a (y :: b) _ (fun s hs => ha s (by simp [hs])) hb (h.add (by decide) (by decide) (ha x (by simp)))
      · exact chGo_of (x :: a) b _ ha (fun s hs => hb s (by simp [hs])) (h.add (by decide) (by decide) (hb y (by simp)))
termination_by a b => a.length + b.length
theorem changesL_of {L : List UInt8 → Prop} {a b : List (List UInt8)} (ha : ∀ s ∈ a, L s) (hb : ∀ s ∈ b, L s) : ChOf L (changesL a b) := chGo_of a b [] ha hb (fun c hc => by simp at hc)
/-- All lines, those that stay twice; and those that do not stay. -/
def cntAll (l : List Ch) : Nat := (l.map fun c => if c.kind = 1 then c.ls.length + c.ls.length else c.ls.length).sum
def cntOff (l : List Ch) : Nat := (l.map fun c => if c.kind = 1 then 0 else c.ls.length).sum
theorem cntAll_app (l m : List Ch) : cntAll (l ++ m) = cntAll l + cntAll m := by unfold cntAll; rw [List.map_append, List.sum_append]
theorem cntOff_app (l m : List Ch) : cntOff (l ++ m) = cntOff l + cntOff m := by unfold cntOff; rw [List.map_append, List.sum_append]
theorem cntAll_succ (l : List Ch) (k : Nat) (h : k < l.length) : cntAll (l.take (k + 1)) = cntAll (l.take k) + if l[k].kind = 1 then l[k].ls.length + l[k].ls.length else l[k].ls.length := by
  rw [List.take_succ_eq_append_getElem h, cntAll_app]; simp [cntAll]
theorem cntOff_succ (l : List Ch) (k : Nat) (h : k < l.length) : cntOff (l.take (k + 1)) = cntOff (l.take k) + if l[k].kind = 1 then 0 else l[k].ls.length := by
  rw [List.take_succ_eq_append_getElem h, cntOff_app]; simp [cntOff]
theorem cnt_sums (l : List Ch) (h : ∀ c ∈ l, 1 ≤ c.kind ∧ c.kind ≤ 3) : cntAll l = 2 * cnt l 1 + cnt l 2 + cnt l 3 ∧ cntOff l = cnt l 2 + cnt l 3 := by
  induction l with
  | nil => simp [cntAll, cntOff, cnt]
  | cons c l ih =>
    have ih := ih (fun d hd => h d (by simp [hd]))
    have hc := h c (by simp)
    simp only [cntAll, cntOff, cnt, List.map_cons, List.sum_cons] at ih ⊢
    have : c.kind = 1 ∨ c.kind = 2 ∨ c.kind = 3 := by omega
    rcases this with e | e | e <;> simp [e] <;> omega
theorem changes_sums {a b : List (List UInt8)} : cntAll (changesL a b) = a.length + b.length ∧ cntOff (changesL a b) = a.length + b.length - 2 * lcs a b := by
  have h1 := cnt_sums (changesL a b) (fun c hc => by have := changesL_of (L := fun _ => True) (a := a) (b := b) (fun _ _ => trivial) (fun _ _ => trivial) c hc; exact ⟨this.1, this.2.1⟩)
  have h2 := changesL_cnt a b
  omega
theorem cnt_mono (l : List Ch) (k : Nat) : cntAll (l.take k) ≤ cntAll l ∧ cntOff (l.take k) ≤ cntOff l := by
  have h1 := cntAll_app (l.take k) (l.drop k)
  have h2 := cntOff_app (l.take k) (l.drop k)
  rw [List.take_append_drop] at h1 h2
  omega
end Go.Proofs.Ytofahmdjhpbecaa
