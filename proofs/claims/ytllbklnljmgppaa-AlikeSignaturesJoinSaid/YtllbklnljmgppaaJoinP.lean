/-
  The signature of two texts put together with a blank, plainly: place by place the least of both. No condition.
-/
import Derived.Test.YtllbklnljmgppaaMix
namespace Go.Proofs.Ytllbklnljmgppaa
open Go.RowKit
set_option linter.unusedVariables false

theorem le_minL {l : List Int} {i : Nat} {v : Int} : v ≤ minL l i ↔ v ≤ 18446744073709551615 ∧ ∀ x ∈ l, v ≤ mixI x i := by
  unfold minL
  suffices ∀ (m : Int), v ≤ l.foldl (fun m x => min m (mixI x i)) m ↔ v ≤ m ∧ ∀ x ∈ l, v ≤ mixI x i from this _
  induction l with
  | nil => intro m; simp
  | cons x l ih =>
    intro m
    rw [List.foldl_cons, ih]
    simp only [List.mem_cons, forall_eq_or_imp]
    rw [Int.le_min, and_assoc]
theorem minL_union {l p q : List Int} (h : ∀ x, x ∈ l ↔ x ∈ p ∨ x ∈ q) (i : Nat) : minL l i = min (minL p i) (minL q i) := by
  have hp := minL_hi p i
  refine Int.le_antisymm ?_ ?_
  · rw [Int.le_min]
    have h1 := (le_minL (l := l) (i := i)).1 (Int.le_refl _)
    exact ⟨le_minL.2 ⟨h1.1, fun x hx => h1.2 x ((h x).2 (.inl hx))⟩, le_minL.2 ⟨h1.1, fun x hx => h1.2 x ((h x).2 (.inr hx))⟩⟩
  · refine le_minL.2 ⟨Int.le_trans (Int.min_le_left _ _) hp, fun x hx => ?_⟩
    rcases (h x).1 hx with hx | hx
    · exact Int.le_trans (Int.min_le_left _ _) ((le_minL.1 (Int.le_refl _)).2 x hx)
    · exact Int.le_trans (Int.min_le_right _ _) ((le_minL.1 (Int.le_refl _)).2 x hx)
theorem wordsL_eq (t : List UInt8) : wordsL t = (wFlush (t.foldl wStep ([], []))).1 := by
  unfold wordsL wAt
  rw [if_neg (by omega)]
theorem wStep_pre (A : List (List UInt8)) (s : List (List UInt8) × List UInt8) (c : UInt8) : wStep (A ++ s.1, s.2) c = (A ++ (wStep s c).1, (wStep s c).2) := by
  unfold wStep
  split
  · rfl
  · show (if s.2 = [] then (A ++ s.1, s.2) else (A ++ s.1 ++ [s.2], [])) = _
    by_cases h : s.2 = []
    · simp [h]
    · simp [h]
theorem foldl_pre (A : List (List UInt8)) : ∀ (t : List UInt8) (s : List (List UInt8) × List UInt8), t.foldl wStep (A ++ s.1, s.2) = (A ++ (t.foldl wStep s).1, (t.foldl wStep s).2)
  | [], s => rfl
  | c :: t, s => by rw [List.foldl_cons, List.foldl_cons, wStep_pre, foldl_pre A t]
theorem wFlush_pre (A : List (List UInt8)) (s : List (List UInt8) × List UInt8) : wFlush (A ++ s.1, s.2) = (A ++ (wFlush s).1, (wFlush s).2) := by
  unfold wFlush
  show (if s.2 = [] then (A ++ s.1, s.2) else (A ++ s.1 ++ [s.2], [])) = _
  by_cases h : s.2 = []
  · simp [h]
  · simp [h]
theorem wStep_blank (s : List (List UInt8) × List UInt8) : wStep s 32 = ((wFlush s).1, []) := by
  unfold wStep wFlush
  rw [if_neg (by decide)]
  by_cases h : s.2 = []
  · rw [if_pos h]; exact Prod.ext rfl h
  · rw [if_neg h]
theorem wordsL_join (a b : List UInt8) : wordsL (a ++ 32 :: b) = wordsL a ++ wordsL b := by
  rw [wordsL_eq, wordsL_eq, wordsL_eq, List.foldl_append, List.foldl_cons, wStep_blank]
  have := foldl_pre (wFlush (a.foldl wStep ([], []))).1 b ([], [])
  rw [List.append_nil] at this
  rw [this, wFlush_pre]
theorem shL_one {t : List UInt8} {x : Int} : x ∈ shL t 1 ↔ ∃ u ∈ wordsL t, fnv (sjoin [u]) = x := by
  rw [shL_mem]
  have hN : shN (wordsL t) 1 = 1 := by unfold shN; split <;> omega
  have hM : shM (wordsL t) 1 = (wordsL t).length := by unfold shM; rw [hN]; split <;> omega
  rw [hN, hM]
  have ht : ∀ i (h : i < (wordsL t).length), ((wordsL t).drop i).take 1 = [(wordsL t)[i]] := by
    intro i h
    rw [List.drop_eq_getElem_cons h]; rfl
  constructor
  · rintro ⟨i, hi, rfl⟩
    exact ⟨_, List.getElem_mem hi, by rw [ht i hi]⟩
  · rintro ⟨u, hu, rfl⟩
    obtain ⟨i, hi, rfl⟩ := List.getElem_of_mem hu
    exact ⟨i, hi, by rw [ht i hi]⟩
theorem shL_join {a b : List UInt8} {x : Int} : x ∈ shL (a ++ 32 :: b) 1 ↔ x ∈ shL a 1 ∨ x ∈ shL b 1 := by
  rw [shL_one, shL_one, shL_one, wordsL_join]
  constructor
  · rintro ⟨u, hu, rfl⟩
    rcases List.mem_append.1 hu with h | h
    · exact .inl ⟨u, h, rfl⟩
    · exact .inr ⟨u, h, rfl⟩
  · rintro (⟨u, hu, rfl⟩ | ⟨u, hu, rfl⟩)
    · exact ⟨u, List.mem_append.2 (.inl hu), rfl⟩
    · exact ⟨u, List.mem_append.2 (.inr hu), rfl⟩
theorem sgF_good {t : List UInt8} {n k : Int} (h : sgF t n k = 0) : 0 ≤ k ∧ (sgO t n k).length = k.toNat ∧ sgO t n k = sgL (shL t n.toNat) k.toNat := by
  have h0 := h
  unfold sgF at h
  split at h
  · split at h
    · rename_i h2
      have h2 : 1 ≤ k ∧ k ≤ 128 := of_decide_eq_true h2.2
      have e : sgO t n k = sgL (shL t n.toNat) k.toNat := if_pos h0
      exact ⟨by omega, by rw [e, sgL_len], e⟩
    · cases h
  · cases h
theorem sig_join {a b : List UInt8} {k : Int} (ha : sgF a 1 k = 0) (hb : sgF b 1 k = 0) (hc : sgF (a ++ 32 :: b) 1 k = 0) (i : Nat) (h1 : i < (sgO a 1 k).length) (h2 : i < (sgO b 1 k).length) (h3 : i < (sgO (a ++ 32 :: b) 1 k).length) :
    (sgO (a ++ 32 :: b) 1 k)[i] = min (sgO a 1 k)[i] (sgO b 1 k)[i] := by
  have ea := (sgF_good ha).2.2
  have eb := (sgF_good hb).2.2
  have ec := (sgF_good hc).2.2
  simp only [ea, eb, ec, sgL, List.getElem_map, List.getElem_range]
  exact minL_union (fun x => shL_join) i
end Go.Proofs.Ytllbklnljmgppaa
