/-
  Votes on copies: plain facts.
-/
import Derived.Test.YtnkdcmibafjplaaGreatDoorCopies
namespace Go.Proofs.YtnkdcmibafjplaaGreatDoor
open Go.RowKit
set_option linter.unusedVariables false
set_option linter.unusedSimpArgs false

structure Vote where
  item : List UInt8
  digest : List UInt8
  right : List (List UInt8)
  wrong : List (List UInt8)
deriving Inhabited
def wtOf (s : List Site) (h : Held) : Int := (s.getD (siteIdx s h.site).toNat default).weight
def sumW (s : List Site) : List Held → Int
  | [] => 0
  | h :: l => wtOf s h + sumW s l
def ofW (s : List Site) (d : List UInt8) : List Held → Int
  | [] => 0
  | h :: l => (if h.digest = d then wtOf s h else 0) + ofW s d l
def voteDigGo (s : List Site) (all : List Held) : List Held → List UInt8 → List UInt8
  | [], d => d
  | h :: l, d => voteDigGo s all l (if 2 * ofW s h.digest all > sumW s all then h.digest else d)
def voteDig (s : List Site) (l : List Held) : List UInt8 := voteDigGo s l l []
def sitesOf (p : List UInt8 → Bool) (l : List Held) : List (List UInt8) := (l.filter fun h => p h.digest).map (·.site)
def isD (d : List UInt8) (x : List UInt8) : Bool := decide (x = d)
def notD (d : List UInt8) (x : List UInt8) : Bool := decide (x ≠ d)
def voteOf (s : List Site) (l : List Held) : Vote := ⟨(l.headD default).item, voteDig s l, sitesOf (isD (voteDig s l)) l, sitesOf (notD (voteDig s l)) l⟩
theorem sumW_app (s : List Site) : ∀ a b : List Held, sumW s (a ++ b) = sumW s a + sumW s b
  | [], b => by simp [sumW]
  | h :: a, b => by rw [List.cons_append, sumW, sumW, sumW_app s a b]; omega
theorem ofW_app (s : List Site) (d : List UInt8) : ∀ a b : List Held, ofW s d (a ++ b) = ofW s d a + ofW s d b
  | [], b => by simp [ofW]
  | h :: a, b => by rw [List.cons_append, ofW, ofW, ofW_app s d a b]; omega
theorem sumW_take (s : List Site) (l : List Held) (k : Nat) (h : k < l.length) : sumW s (l.take (k + 1)) = sumW s (l.take k) + wtOf s l[k] := by
  rw [List.take_succ_eq_append_getElem h, sumW_app]; simp [sumW]
theorem ofW_take (s : List Site) (d : List UInt8) (l : List Held) (k : Nat) (h : k < l.length) : ofW s d (l.take (k + 1)) = ofW s d (l.take k) + if l[k].digest = d then wtOf s l[k] else 0 := by
  rw [List.take_succ_eq_append_getElem h, ofW_app]; simp [ofW]
theorem sitesOf_take (p : List UInt8 → Bool) (l : List Held) (k : Nat) (h : k < l.length) : sitesOf p (l.take (k + 1)) = sitesOf p (l.take k) ++ if p l[k].digest = true then [l[k].site] else [] := by
  rw [List.take_succ_eq_append_getElem h, sitesOf, List.filter_append, List.map_append]
  by_cases e : p l[k].digest = true <;> simp [e, sitesOf]
theorem sitesOf_len (p : List UInt8 → Bool) (l : List Held) : (sitesOf p l).length ≤ l.length := by
  rw [sitesOf, List.length_map]; exact List.length_filter_le _ _
theorem sitesOf_mem {p : List UInt8 → Bool} {l : List Held} {x : List UInt8} (h : x ∈ sitesOf p l) : ∃ r ∈ l, r.site = x := by
  obtain ⟨r, hr, e⟩ := List.mem_map.1 h
  exact ⟨r, (List.mem_filter.1 hr).1, e⟩
theorem voteDigGo_step (s : List Site) (all l : List Held) (k : Nat) (h : k < l.length) (d : List UInt8) : voteDigGo s all (l.drop k) d = voteDigGo s all (l.drop (k + 1)) (if 2 * ofW s l[k].digest all > sumW s all then l[k].digest else d) := by
  rw [List.drop_eq_getElem_cons h, voteDigGo]
/-- Each copy is at a known site; the weights are from 1 to 1000. -/
def VoteOk (s : List Site) (l : List Held) : Prop := (∀ h ∈ l, ∃ k : Nat, k < s.length ∧ siteIdx s h.site = k) ∧ (∀ x ∈ s, 1 ≤ x.weight ∧ x.weight ≤ 1000) ∧ l ≠ [] ∧ l.length ≤ 3000
theorem wtOf_range {s : List Site} {l : List Held} (h : VoteOk s l) {x : Held} (hx : x ∈ l) : 1 ≤ wtOf s x ∧ wtOf s x ≤ 1000 := by
  obtain ⟨k, hk, e⟩ := h.1 x hx
  rw [wtOf, e, Int.toNat_natCast, getD_at _ _ hk]
  exact h.2.1 _ (List.getElem_mem hk)
theorem sumW_range {s : List Site} : ∀ {l : List Held}, (∀ x ∈ l, 1 ≤ wtOf s x ∧ wtOf s x ≤ 1000) → 0 ≤ sumW s l ∧ sumW s l ≤ 1000 * l.length
  | [], _ => by simp [sumW]
  | x :: l, h => by
    have := sumW_range (l := l) fun y hy => h y (by simp [hy])
    have := h x (by simp)
    rw [sumW, List.length_cons]; omega
theorem ofW_range {s : List Site} (d : List UInt8) : ∀ {l : List Held}, (∀ x ∈ l, 1 ≤ wtOf s x ∧ wtOf s x ≤ 1000) → 0 ≤ ofW s d l ∧ ofW s d l ≤ 1000 * l.length
  | [], _ => by simp [ofW]
  | x :: l, h => by
    have := ofW_range d (l := l) fun y hy => h y (by simp [hy])
    have := h x (by simp)
    rw [ofW, List.length_cons]; split <;> omega
/- The copies of each item are voted on together. -/
/-- How many copies stand first that are of one item. -/
def runLen (it : List UInt8) : List Held → Nat
  | [] => 0
  | h :: l => if h.item = it then runLen it l + 1 else 0
theorem runLen_le (it : List UInt8) : ∀ l, runLen it l ≤ l.length
  | [] => Nat.le_refl _
  | h :: l => by rw [runLen]; split <;> simp; have := runLen_le it l; omega
def votesOf (s : List Site) (l : List Held) : List Vote :=
  match l with
  | [] => []
  | h :: r => voteOf s ((h :: r).take (runLen h.item r + 1)) :: votesOf s ((h :: r).drop (runLen h.item r + 1))
termination_by l.length
decreasing_by simp only [List.length_drop, List.length_cons]; omega
theorem runLen_at (it : List UInt8) : ∀ (l : List Held) (k : Nat), (∀ j, j < k → ∀ hj : j < l.length, l[j].item = it) → k ≤ l.length → (∀ hk : k < l.length, l[k].item ≠ it) → runLen it l = k
  | [], k, _, hk, _ => by simp at hk; subst hk; rfl
  | h :: l, 0, _, _, hn => by rw [runLen, if_neg (show ¬ h.item = it from hn (by simp))]
  | h :: l, k + 1, ha, hk, hn => by
    rw [runLen, if_pos (show h.item = it from ha 0 (by omega) (by simp)), runLen_at it l k (fun j hj hjl => ha (j + 1) (by omega) (by simpa using hjl)) (by simpa using hk) (fun hkl => hn (by simpa using hkl))]
/-- One step of the copies, from place i on to place k. -/
theorem votesOf_step {s : List Site} {l : List Held} {i k : Nat} (hi : i < l.length) (hik : i < k) (hk : k ≤ l.length) (ha : ∀ j, i ≤ j → j < k → ∀ hj : j < l.length, l[j].item = l[i].item) (hn : ∀ hk : k < l.length, l[k].item ≠ l[i].item) :
    votesOf s (l.drop i) = voteOf s ((l.drop i).take (k - i)) :: votesOf s (l.drop k) := by
  rw [List.drop_eq_getElem_cons hi, votesOf]
  have hr : runLen l[i].item (l.drop (i + 1)) = k - (i + 1) := by
    refine runLen_at _ _ _ (fun j hj hjl => ?_) (by rw [List.length_drop]; omega) (fun hkl => ?_)
    · rw [List.getElem_drop]
      exact ha _ (by omega) (by omega) _
    · rw [List.getElem_drop]
      have := hn (by rw [List.length_drop] at hkl; omega)
      simpa [show i + 1 + (k - (i + 1)) = k by omega] using this
  rw [hr, show k - (i + 1) + 1 = k - i by omega, ← List.drop_eq_getElem_cons hi, List.drop_drop, show i + (k - i) = k by omega]
theorem votesOf_nil (s : List Site) : votesOf s [] = [] := by rw [votesOf]
theorem VoteOk.part {s : List Site} {l : List Held} (h : VoteOk s l) {m : List Held} (hm : ∀ x ∈ m, x ∈ l) (h0 : m ≠ []) (hl : m.length ≤ 3000) : VoteOk s m :=
  ⟨fun x hx => h.1 x (hm x hx), h.2.1, h0, hl⟩
theorem copies_ok {s : List Site} {l : List Held} (h : copiesFault s l = 0) : sitesFault s = 0 ∧ l.length ≤ 3000 ∧ ∀ j, j < l.length → heldF s l j = 0 := by
  unfold copiesFault at h
  split at h
  · rename_i h0; exact absurd h h0
  · rename_i h0
    split at h
    · omega
    · exact ⟨by simpa using h0, by omega, firstF_all h⟩
theorem sites_ok {s : List Site} (h : sitesFault s = 0) : s ≠ [] ∧ s.length ≤ 50 ∧ ∀ x ∈ s, 1 ≤ x.weight ∧ x.weight ≤ 1000 := by
  unfold sitesFault at h
  split at h
  · omega
  · split at h
    · omega
    · rename_i h0 h5
      refine ⟨fun e => h0 (by rw [e]; rfl), by omega, fun x hx => ?_⟩
      obtain ⟨j, hj, rfl⟩ := List.getElem_of_mem hx
      have hf := firstF_all h j hj
      unfold siteF at hf
      rw [getD_at _ _ hj] at hf
      split at hf
      · omega
      · split at hf
        · omega
        · split at hf
          · omega
          · rename_i hr
            have hr := Bool.not_eq_false _ ▸ hr
            simp only [siteRange, Bool.and_eq_true, decide_eq_true_eq] at hr
            omega
theorem copies_VoteOk {s : List Site} {l : List Held} (h : copiesFault s l = 0) (h0 : l ≠ []) : VoteOk s l := by
  obtain ⟨h1, h2, h3⟩ := copies_ok h
  refine ⟨fun x hx => ?_, (sites_ok h1).2.2, h0, h2⟩
  obtain ⟨j, hj, rfl⟩ := List.getElem_of_mem hx
  have hf := h3 j hj
  unfold heldF at hf
  rw [getD_at _ _ hj] at hf
  split at hf
  · omega
  · split at hf
    · omega
    · rename_i hs
      rcases siteIdx_range s l[j].site with ⟨e, _⟩ | ⟨k, hk, e, _⟩
      · rw [e] at hs; omega
      · exact ⟨k, hk, e⟩
end Go.Proofs.YtnkdcmibafjplaaGreatDoor
