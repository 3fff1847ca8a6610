/-
  Versions, how they are kept and restored: plain facts.
-/
import Derived.Test.YtofahmdjhpbecaaBack
import Derived.Test.YtofahmdjhpbecaaList
namespace Go.Proofs.Ytofahmdjhpbecaa
open Go.RowKit
set_option linter.unusedVariables false
set_option linter.unusedSimpArgs false

structure Ver where
  whole : Bool
  bs : List UInt8
  ps : List Cp
deriving DecidableEq
def verRp : Rp Ver := (Rp.pair Rp.bool (Rp.pair (Rp.sl Rp.u8) (Rp.sl cpRp))).via fun v => (v.whole, v.bs, v.ps)
theorem ver_open {w : World} {S : Nat → Prop} {us : List Value} {c : Ver} (h : verRp.ok w S us c) : ∃ v1 v2, us = [.bool c.whole, v1, v2] ∧ (Rp.sl Rp.u8).ok w S [v1] c.bs ∧ (Rp.sl cpRp).ok w S [v2] c.ps := by
  obtain ⟨_, _, rfl, rfl, _, _, rfl, h2, h3⟩ := h
  obtain ⟨v1, rfl⟩ := List.length_eq_one_iff.1 ((Rp.sl Rp.u8).len h2)
  obtain ⟨v2, rfl⟩ := List.length_eq_one_iff.1 ((Rp.sl cpRp).len h3)
  exact ⟨v1, v2, rfl, h2, h3⟩
theorem ver_mk {w : World} {S : Nat → Prop} {c : Ver} {v1 v2 : Value} (h1 : (Rp.sl Rp.u8).ok w S [v1] c.bs) (h2 : (Rp.sl cpRp).ok w S [v2] c.ps) : verRp.ok w S [.bool c.whole, v1, v2] c :=
  ⟨[_], [_, _], rfl, rfl, [_], [_], rfl, h1, h2⟩

/-- The first k versions as they are kept, and how many in a row are not whole. -/
def keptK (l : List (List UInt8)) (most : Int) : Nat → List Ver × Nat
  | 0 => ([], 0)
  | k + 1 => if 0 < k ∧ ((keptK l most k).2 : Int) < most ∧ (dBytes (deltaL (l.getD (k - 1) []) (l.getD k []))).length < (l.getD k []).length then
      ((keptK l most k).1 ++ [⟨false, [], deltaL (l.getD (k - 1) []) (l.getD k [])⟩], (keptK l most k).2 + 1)
    else ((keptK l most k).1 ++ [⟨true, l.getD k [], []⟩], 0)
theorem keptK_len (l : List (List UInt8)) (most : Int) : ∀ k, (keptK l most k).1.length = k ∧ (keptK l most k).2 ≤ k
  | 0 => ⟨rfl, Nat.le_refl _⟩
  | k + 1 => by
    have ih := keptK_len l most k
    rw [keptK]
    split
    · simp only [List.length_append, List.length_singleton]; omega
    · simp only [List.length_append, List.length_singleton]; omega
theorem keptK_delta {l : List (List UInt8)} {most : Int} {k : Nat} (h : k + 1 < l.length) (h1 : ((keptK l most (k + 1)).2 : Int) < most) (h2 : (dBytes (deltaL l[k] l[k + 1])).length < l[k + 1].length) :
    keptK l most (k + 1 + 1) = ((keptK l most (k + 1)).1 ++ [⟨false, [], deltaL l[k] l[k + 1]⟩], (keptK l most (k + 1)).2 + 1) := by
  have e1 : l.getD (k + 1) [] = l[k + 1] := by rw [List.getD_eq_getElem?_getD, List.getElem?_eq_getElem h]; rfl
  have e2 : l.getD (k + 1 - 1) [] = l[k] := by rw [Nat.add_sub_cancel, List.getD_eq_getElem?_getD, List.getElem?_eq_getElem (by omega)]; rfl
  rw [keptK, e1, e2, if_pos ⟨by omega, h1, h2⟩]
theorem keptK_whole {l : List (List UInt8)} {most : Int} {k : Nat} (h : k < l.length) (h1 : ¬ (0 < k ∧ ((keptK l most k).2 : Int) < most ∧ (dBytes (deltaL (l.getD (k - 1) []) l[k])).length < l[k].length)) :
    keptK l most (k + 1) = ((keptK l most k).1 ++ [⟨true, l[k], []⟩], 0) := by
  have e1 : l.getD k [] = l[k] := by rw [List.getD_eq_getElem?_getD, List.getElem?_eq_getElem h]; rfl
  rw [keptK, e1, if_neg h1]
def keptBad (l : List (List UInt8)) : Bool := decide (300 < l.length) || l.any fun b => decide (3000 < b.length)
def keptFault (l : List (List UInt8)) (most : Int) : Int := if keptBad l then 2 else if most < 0 ∨ 300 < most then 1 else 0
def keptOut (l : List (List UInt8)) (most : Int) : List Ver := if keptFault l most = 0 then (keptK l most l.length).1 else []
theorem keptK_at (l : List (List UInt8)) (most : Int) : ∀ k i, i < k → ∃ c, (keptK l most k).1[i]? = some c ∧ (c = ⟨true, l.getD i [], []⟩ ∨ (0 < i ∧ c = ⟨false, [], deltaL (l.getD (i - 1) []) (l.getD i [])⟩))
  | 0, i, h => by omega
  | k + 1, i, h => by
    have hl := (keptK_len l most k).1
    by_cases hik : i < k
    · obtain ⟨c, h1, h2⟩ := keptK_at l most k i hik
      refine ⟨c, ?_, h2⟩
      rw [keptK]
      split
      · rw [List.getElem?_append_left (by omega)]; exact h1
      · rw [List.getElem?_append_left (by omega)]; exact h1
    · obtain rfl : i = k := by omega
      rw [keptK]
      split
      · rename_i hc
        exact ⟨_, by rw [List.getElem?_append_right (by omega), hl, Nat.sub_self]; rfl, .inr ⟨hc.1, rfl⟩⟩
      · exact ⟨_, by rw [List.getElem?_append_right (by omega), hl, Nat.sub_self]; rfl, .inl rfl⟩

/-- What the versions from a whole one on give. -/
def rsGo (out : List UInt8) : List Ver → List UInt8 × Int
  | [] => (out, 0)
  | v :: r =>
    if v.whole = true ∧ v.ps ≠ [] ∨ v.whole = false ∧ v.bs ≠ [] then ([], 3)
    else if v.whole = true then (if 3000 < v.bs.length then ([], 2) else rsGo v.bs r)
    else if rbFault out v.ps ≠ 0 then ([], rbFault out v.ps) else rsGo (rbRes out v.ps) r
/-- The last whole version up to one, plus 1; 0: there is none. -/
def lastW (l : List Ver) : Nat → Nat
  | 0 => 0
  | k + 1 => if (l.getD k ⟨false, [], []⟩).whole = true then k + 1 else lastW l k
theorem lastW_le (l : List Ver) : ∀ k, lastW l k ≤ k
  | 0 => Nat.le_refl _
  | k + 1 => by have := lastW_le l k; rw [lastW]; split <;> omega
def rsAll (l : List Ver) (n : Int) : List UInt8 × Int :=
  if 300 < l.length then ([], 2) else if n < 0 ∨ (l.length : Int) ≤ n then ([], 1)
  else if lastW l (n.toNat + 1) = 0 then ([], 9) else rsGo [] ((l.drop (lastW l (n.toNat + 1) - 1)).take (n.toNat + 1 - (lastW l (n.toNat + 1) - 1)))
section
variable {l : List Ver} {k : Nat}
theorem lastW_yes (h : k < l.length) (hw : l[k].whole = true) : lastW l (k + 1) = k + 1 := by
  rw [lastW, List.getD_eq_getElem?_getD, List.getElem?_eq_getElem h, if_pos (by simpa using hw)]
theorem lastW_no (h : k < l.length) (hw : l[k].whole = false) : lastW l (k + 1) = lastW l k := by
  rw [lastW, List.getD_eq_getElem?_getD, List.getElem?_eq_getElem h, if_neg (by simp [hw])]
end
theorem lastW_at {l : List Ver} : ∀ {k : Nat}, k ≤ l.length → 0 < lastW l k → ∃ h : lastW l k - 1 < l.length, l[lastW l k - 1].whole = true
  | 0, _, h => by simp [lastW] at h
  | k + 1, hk, h => by
    cases hw : (l[k]'(by omega)).whole with
    | true => rw [lastW_yes (by omega) hw]; exact ⟨by omega, by simpa using hw⟩
    | false => rw [lastW_no (by omega) hw] at h ⊢; exact lastW_at (by omega) h
theorem lastW_not {l : List Ver} : ∀ {k i : Nat}, k ≤ l.length → lastW l k ≤ i → (hi : i < k) → (h : i < l.length) → l[i].whole = false
  | 0, i, _, _, hi, h => by omega
  | k + 1, i, hk, hl, hi, h => by
    cases hw : (l[k]'(by omega)).whole with
    | true => rw [lastW_yes (by omega) hw] at hl; omega
    | false =>
      rw [lastW_no (by omega) hw] at hl
      by_cases e : i = k
      · subst e; exact hw
      · exact lastW_not (by omega) hl (by omega) h

/-- Pieces of one version after another one give these versions. -/
theorem rsGo_pieces (l : List (List UInt8)) (hl : ∀ b ∈ l, b.length ≤ 3000) : ∀ (m j : Nat) (vs : List Ver), j + m < l.length → vs.length = m → (∀ i, (h : i < m) → ∃ h2 : i < vs.length, vs[i] = ⟨false, [], deltaL (l.getD (j + i) []) (l.getD (j + i + 1) [])⟩) →
    rsGo (l.getD j []) vs = (l.getD (j + m) [], 0)
  | 0, j, vs, _, hv, _ => by
    rw [List.eq_nil_of_length_eq_zero hv]; rfl
  | m + 1, j, [], _, hv, _ => by simp at hv
  | m + 1, j, v :: vs, hj, hv, h => by
    obtain ⟨h2, e⟩ := h 0 (by omega)
    rw [List.getElem_cons_zero] at e
    have g1 : (l.getD j []).length ≤ 3000 := by rw [List.getD_eq_getElem?_getD, List.getElem?_eq_getElem (by omega)]; exact hl _ (List.getElem_mem _)
    have g2 : (l.getD (j + 1) []).length ≤ 3000 := by rw [List.getD_eq_getElem?_getD, List.getElem?_eq_getElem (by omega)]; exact hl _ (List.getElem_mem _)
    obtain ⟨r1, r2⟩ := rb_back g1 g2
    rw [rsGo, e]
    simp only [Bool.false_eq_true, false_and, true_and, ne_eq, not_true_eq_false, or_false, if_false, Nat.add_zero]
    rw [r1, r2, if_neg (by decide)]
    have ih := rsGo_pieces l hl m (j + 1) vs (by omega) (by simpa using hv) (fun i hi => by
      obtain ⟨h3, e3⟩ := h (i + 1) (by omega)
      refine ⟨by simpa using h3, ?_⟩
      rw [List.getElem_cons_succ] at e3
      rw [e3, show j + (i + 1) = j + 1 + i by omega])
    rw [ih, show j + 1 + m = j + (m + 1) by omega]
theorem kept_back {l : List (List UInt8)} {most : Int} (hl : ∀ b ∈ l, b.length ≤ 3000) (h3 : l.length ≤ 300) {i : Nat} (hi : i < l.length) : rsAll (keptK l most l.length).1 i = (l[i], 0) := by
  have hlen := (keptK_len l most l.length).1
  have hat := keptK_at l most l.length
  obtain ⟨vs, hvs⟩ : ∃ vs, (keptK l most l.length).1 = vs := ⟨_, rfl⟩
  rw [hvs] at hlen hat ⊢
  have hat' : ∀ i (h : i < vs.length), vs[i] = ⟨true, l.getD i [], []⟩ ∨ (0 < i ∧ vs[i] = ⟨false, [], deltaL (l.getD (i - 1) []) (l.getD i [])⟩) := fun i h => by
    obtain ⟨c, h1, h2⟩ := hat i (by omega)
    rw [List.getElem?_eq_getElem h] at h1
    injection h1 with h1
    rw [h1]; exact h2
  have hpos : 0 < lastW vs (i + 1) := by
    rcases Nat.eq_zero_or_pos (lastW vs (i + 1)) with h0 | h0
    · have := lastW_not (l := vs) (k := i + 1) (i := 0) (by omega) (by omega) (by omega) (by omega)
      rcases hat' 0 (by omega) with h | ⟨h, _⟩
      · rw [h] at this; cases this
      · omega
    · exact h0
  have hle := lastW_le vs (i + 1)
  obtain ⟨hf, hfw⟩ := lastW_at (l := vs) (by omega) hpos
  obtain ⟨f, hfe⟩ : ∃ f, lastW vs (i + 1) = f + 1 := ⟨lastW vs (i + 1) - 1, by omega⟩
  rw [rsAll, if_neg (by omega), if_neg (by omega), Int.toNat_natCast, if_neg (by omega), hfe, Nat.add_sub_cancel]
  simp only [hfe, Nat.add_sub_cancel] at hf hfw
  have hfi : f ≤ i := by omega
  have e1 : (vs.drop f).take (i + 1 - f) = vs[f] :: (vs.drop (f + 1)).take (i - f) := by
    rw [List.drop_eq_getElem_cons hf, show i + 1 - f = (i - f) + 1 by omega, List.take_succ_cons]
  have hv0 : vs[f] = ⟨true, l.getD f [], []⟩ := by
    rcases hat' f hf with h | ⟨_, h⟩
    · exact h
    · rw [h] at hfw; cases hfw
  have hgi : l.getD i [] = l[i] := by rw [List.getD_eq_getElem?_getD, List.getElem?_eq_getElem hi]; rfl
  have g1 : (l.getD f []).length ≤ 3000 := by rw [List.getD_eq_getElem?_getD, List.getElem?_eq_getElem (by omega)]; exact hl _ (List.getElem_mem _)
  rw [e1, hv0, rsGo]
  simp only [true_and, ne_eq, not_true_eq_false, Bool.true_eq_false, false_and, or_false, if_false, if_true]
  rw [if_neg (by omega)]
  have := rsGo_pieces l hl (i - f) f ((vs.drop (f + 1)).take (i - f)) (by omega) (by rw [List.length_take, List.length_drop]; omega) (fun j hj => by
    refine ⟨by rw [List.length_take, List.length_drop]; omega, ?_⟩
    rw [List.getElem_take, List.getElem_drop]
    have hw := lastW_not (l := vs) (k := i + 1) (i := f + 1 + j) (by omega) (by omega) (by omega) (by omega)
    rcases hat' (f + 1 + j) (by omega) with h | ⟨_, h⟩
    · rw [h] at hw; cases hw
    · rw [h]
      congr 2
      · congr 1; omega
      · congr 1; omega)
  rw [this, show f + (i - f) = i by omega, hgi]
end Go.Proofs.Ytofahmdjhpbecaa
