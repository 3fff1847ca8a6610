/-
  One more right for nobody: plain facts.
-/
import Derived.Test.YtfgglpjmkahphaaDoorRights
namespace Go.Proofs.YtfgglpjmkahphaaDoor
open Go.RowKit
set_option linter.unusedVariables false
set_option linter.unusedSimpArgs false

def hideR (c : Cap) (at_ : Int) : Rgt := ⟨[122, 122, 45, 104, 105, 100, 101], c.key, 0, 253402300800, at_, at_ + 1, at_, 4, []⟩
section
variable {t : List Team} {l : List Rgt} {who : List UInt8} {house : Bool} {c : Cap} {at_ : Int}
theorem rOf_app (l : List Rgt) (x : Rgt) (c : Cap) (at_ : Int) : ∀ k, k ≤ l.length → rOf (l ++ [x]) c at_ k = rOf l c at_ k
  | 0, _ => rfl
  | k + 1, h => by
    have ih := rOf_app l x c at_ k (by omega)
    have hr := rOf_range l c at_ k
    have e1 : (l ++ [x]).getD k default = l.getD k default := by
      rw [getD_at (l ++ [x]) _ (show k < (l ++ [x]).length by simp; omega), getD_at l _ (show k < l.length by omega), List.getElem_append_left]
    have e2 : 0 ≤ rOf l c at_ k → (l ++ [x]).getD (rOf l c at_ k).toNat default = l.getD (rOf l c at_ k).toNat default := fun h0 => by
      rw [getD_at (l ++ [x]) _ (show (rOf l c at_ k).toNat < (l ++ [x]).length by simp; omega), getD_at l _ (show (rOf l c at_ k).toNat < l.length by omega), List.getElem_append_left]
    rw [rOf, rOf, ih, e1]
    by_cases h0 : rOf l c at_ k < 0
    · simp [h0]
    · rw [e2 (by omega)]
theorem rightIx_app (l : List Rgt) (x : Rgt) (c : Cap) (at_ : Int) : rightIx (l ++ [x]) c at_ = if concB x c at_ = true ∧ (rightIx l c at_ < 0 ∨ near x (l.getD (rightIx l c at_).toNat default) < 0) then (l.length : Int) else rightIx l c at_ := by
  have hl : (l ++ [x]).length = l.length + 1 := by simp
  have hr := rOf_range l c at_ l.length
  have e1 : (l ++ [x]).getD l.length default = x := by rw [getD_at (l ++ [x]) _ (by omega)]; simp
  have e3 : rightIx (l ++ [x]) c at_ = rOf (l ++ [x]) c at_ (l.length + 1) := by rw [rightIx, hl]
  rw [e3, rOf, rOf_app l x c at_ l.length (Nat.le_refl _), e1]
  show (if concB x c at_ = true ∧ (rightIx l c at_ < 0 ∨ near x ((l ++ [x]).getD (rightIx l c at_).toNat default) < 0) then (l.length : Int) else rightIx l c at_) = _
  by_cases h0 : rightIx l c at_ < 0
  · simp [h0]
  · have e2 : (l ++ [x]).getD (rightIx l c at_).toNat default = l.getD (rightIx l c at_).toNat default := by
      have : rightIx l c at_ < l.length := hr.2
      rw [getD_at (l ++ [x]) _ (show (rightIx l c at_).toNat < (l ++ [x]).length by simp; omega), getD_at l _ (show (rightIx l c at_).toNat < l.length by omega), List.getElem_append_left]
    rw [e2]
theorem rOf_conc (l : List Rgt) (c : Cap) (at_ : Int) : ∀ k, 0 ≤ rOf l c at_ k → concB (l.getD (rOf l c at_ k).toNat default) c at_ = true
  | 0, h => by simp [rOf] at h
  | k + 1, h => by
    rw [rOf] at h ⊢
    split
    · rename_i h1
      rw [Int.toNat_natCast]; exact h1.1
    · rename_i h1
      rw [if_neg h1] at h
      exact rOf_conc l c at_ k h
theorem preB_self (k : List UInt8) : preB k k = true := by simp [preB]
theorem preB_len {t p : List UInt8} (h : preB t p = true) : p.length ≤ t.length := by
  unfold preB at h; simp at h; exact h.1
theorem preB_eq {t p : List UInt8} (h : preB t p = true) (hl : t.length ≤ p.length) : p = t := by
  have hle := preB_len h
  unfold preB at h
  simp at h
  rw [← h.2]
  exact List.take_of_length_le hl
theorem hide_conc (hc : capF c = 0) (ha : withinB at_ 0 253402300799 = true) : concB (hideR c at_) c at_ = true := by
  have ht : 0 ≤ c.time ∧ c.time ≤ 253402300799 := by
    unfold capF at hc
    split at hc
    · cases hc
    · split at hc
      · cases hc
      · split at hc
        · cases hc
        · rename_i h3
          cases q : withinB c.time 0 253402300799 with
          | true => exact of_decide_eq_true q
          | false => exact absurd q h3
  unfold concB aboutB fromI hideR
  dsimp only
  rw [preB_self, decide_eq_true (by omega), decide_eq_true (by omega), decide_eq_true (by omega), decide_eq_true (by omega)]
  rfl
theorem hide_near {y : Rgt} (hy : concB y c at_ = true) (hn : ¬ near (hideR c at_) y < 0) : y.pre = c.key ∧ y.made = at_ := by
  unfold concB aboutB fromI at hy
  simp only [Bool.and_eq_true, decide_eq_true_eq] at hy
  obtain ⟨⟨h1, h2, h3⟩, h4, h5⟩ := hy
  have hl := preB_len h1
  unfold near at hn
  have e1 : (hideR c at_).pre = c.key := rfl
  have e2 : (hideR c at_).made = at_ := rfl
  rw [e1, e2] at hn
  have q1 : icmp (y.pre.length : Int) (c.key.length : Int) = 0 := by
    unfold icmp at hn ⊢
    split
    · rename_i h
      rw [if_pos h] at hn
      rw [orL, if_neg (by decide)] at hn
      exact absurd (show (-1 : Int) < 0 by decide) hn
    · split
      · rename_i h; omega
      · rfl
  rw [q1] at hn
  have q2 : icmp y.made at_ = 0 := by
    rw [orL, if_pos (by rfl)] at hn
    unfold icmp at hn ⊢
    split
    · rename_i h
      rw [if_pos h] at hn
      rw [orL, if_neg (by decide)] at hn
      exact absurd (show (-1 : Int) < 0 by decide) hn
    · split
      · rename_i h; omega
      · rfl
  refine ⟨preB_eq h1 ?_, ?_⟩
  · unfold icmp at q1
    split at q1
    · cases q1
    · split at q1
      · cases q1
      · omega
  · unfold icmp at q2
    split at q2
    · cases q2
    · split at q2
      · cases q2
      · omega
theorem hide_law (h0 : (mayTop t l who house c at_).2 = 0) (h1 : rightsFault t (l ++ [hideR c at_]) = 0) :
    (mayTop t (l ++ [hideR c at_]) who house c at_).2 = 0 ∧ ∃ (b : Nat) (hb : b < (l ++ [hideR c at_]).length), rightTop t (l ++ [hideR c at_]) c at_ = ((b : Int), true, 0) ∧ (l ++ [hideR c at_])[b].pre = c.key ∧ (l ++ [hideR c at_])[b].made = at_ ∧ (b = l.length → (mayTop t (l ++ [hideR c at_]) who house c at_).1 = false) := by
  have ha0 : askF t l who c = 0 := by
    unfold mayTop at h0
    split at h0
    · rename_i h; exact absurd h0 h
    · rename_i h; exact Decidable.not_not.1 h
  have hr : withinB at_ 0 253402300799 = true := by
    unfold mayTop at h0
    rw [if_neg (by rw [ha0]; decide)] at h0
    split at h0
    · cases h0
    · rename_i h; simpa using h
  have hw : ¬ (who ≠ [] ∧ isNm who = false) ∧ capF c = 0 := by
    unfold askF at ha0
    split at ha0
    · rename_i h; exact absurd ha0 h
    · split at ha0
      · cases ha0
      · rename_i h2; exact ⟨h2, ha0⟩
  have ha1 : askF t (l ++ [hideR c at_]) who c = 0 := by
    rw [askF, if_neg (by rw [h1]; decide), if_neg hw.1]; exact hw.2
  have ha2 : askF t (l ++ [hideR c at_]) [] c = 0 := by
    rw [askF, if_neg (by rw [h1]; decide), if_neg (fun e => e.1 rfl)]; exact hw.2
  have hm : mayTop t (l ++ [hideR c at_]) who house c at_ = (mayB t (l ++ [hideR c at_]) who house c at_, 0) := by
    rw [mayTop, if_neg (by rw [ha1]; decide), if_neg (by rw [hr]; decide)]
  have ht : rightTop t (l ++ [hideR c at_]) c at_ = (max (rightIx (l ++ [hideR c at_]) c at_) 0, decide (0 ≤ rightIx (l ++ [hideR c at_]) c at_), 0) := by
    rw [rightTop, if_neg (by rw [ha2]; decide), if_neg (by rw [hr]; decide)]
  have hix := rightIx_app l (hideR c at_) c at_
  have hcn := hide_conc hw.2 hr
  have hlen : (l ++ [hideR c at_]).length = l.length + 1 := by simp
  rw [hm]
  refine ⟨rfl, ?_⟩
  by_cases hq : rightIx l c at_ < 0 ∨ near (hideR c at_) (l.getD (rightIx l c at_).toNat default) < 0
  · rw [if_pos ⟨hcn, hq⟩] at hix
    have he : (l ++ [hideR c at_])[l.length]'(by omega) = hideR c at_ := by simp
    refine ⟨l.length, by omega, ?_, by rw [he]; rfl, by rw [he]; rfl, fun _ => ?_⟩
    · rw [ht, hix, decide_eq_true (by omega), Int.max_eq_left (by omega)]
    · show mayB t (l ++ [hideR c at_]) who house c at_ = false
      unfold mayB
      rw [hix, Int.toNat_natCast, getD_at (l ++ [hideR c at_]) _ (show l.length < (l ++ [hideR c at_]).length by omega), he, if_neg (by omega)]
      rfl
  · rw [if_neg (fun e => hq e.2)] at hix
    have hq1 : 0 ≤ rightIx l c at_ := by omega
    have hq2 := (rightIx_range l c at_).2
    obtain ⟨b, hb⟩ : ∃ b : Nat, rightIx l c at_ = (b : Int) := ⟨_, (Int.toNat_of_nonneg hq1).symm⟩
    have hbl : b < l.length := by omega
    have hcb := rOf_conc l c at_ l.length hq1
    have hcb' : concB (l.getD (rightIx l c at_).toNat default) c at_ = true := hcb
    have hnn : ¬ near (hideR c at_) (l.getD (rightIx l c at_).toNat default) < 0 := fun e => hq (.inr e)
    rw [hb, Int.toNat_natCast, getD_at l _ hbl] at hcb' hnn
    obtain ⟨p1, p2⟩ := hide_near hcb' hnn
    have he : (l ++ [hideR c at_])[b]'(by omega) = l[b] := List.getElem_append_left hbl
    refine ⟨b, by omega, ?_, by rw [he]; exact p1, by rw [he]; exact p2, fun e => by omega⟩
    rw [ht, hix, hb, decide_eq_true (by omega), Int.max_eq_left (by omega)]
theorem may_no (h : (mayTop t l who house c at_).2 ≠ 0) : (mayTop t l who house c at_).1 = false := by
  unfold mayTop at h ⊢
  split
  · rfl
  · rename_i h1
    rw [if_neg h1] at h
    split
    · rfl
    · rename_i h2
      rw [if_neg h2] at h
      exact absurd rfl h
theorem may_len (h : (mayTop t l who house c at_).2 = 0) : l.length ≤ 300 ∧ withinB at_ 0 253402300799 = true := by
  have ha0 : askF t l who c = 0 := by
    unfold mayTop at h
    split at h
    · rename_i h'; exact absurd h h'
    · rename_i h'; exact Decidable.not_not.1 h'
  refine ⟨(ask_good ha0).2.2.len, ?_⟩
  unfold mayTop at h
  rw [if_neg (by rw [ha0]; decide)] at h
  split at h
  · cases h
  · rename_i h'; simpa using h'
end
end Go.Proofs.YtfgglpjmkahphaaDoor
