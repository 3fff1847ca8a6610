/-
  The merge of two sorted parts of an array in place (SymMerge): plain facts.
-/
import Derived.Test.YtdeeiifcjbmmiaaDoorRot
namespace Go.Proofs.YtdeeiifcjbmmiaaDoor
open Go.Sort
set_option linter.unusedVariables false
variable {α : Type} [Inhabited α]

theorem permSwapR (d : Array α) (a b x y : Nat) : ∀ n, a ≤ x → x + n ≤ y → y + n ≤ b → b ≤ d.size → PermIn a b d (swapR d x y n)
  | 0, _, _, _, _ => permIn_refl d a b
  | n + 1, h0, h1, h2, h3 => by
    have ih := permSwapR d a b x y n h0 (by omega) (by omega) h3
    exact permIn_trans _ _ _ _ _ ih (swp_permIn _ _ _ _ _ (by omega) (by omega) (by omega) (by omega) (by rw [size_swapR]; exact h3))
theorem permRot (a b m : Nat) : ∀ (s i j : Nat) (d : Array α), i + j ≤ s → i ≤ m → a ≤ m - i → m + j ≤ b → b ≤ d.size → PermIn a b d (rotS d (m - i) m (m + j)) := by
  intro s
  induction s with
  | zero =>
    intro i j d hs h1 h2 h3 h4
    obtain rfl : i = 0 := by omega
    obtain rfl : j = 0 := by omega
    have := rot_end d m 0 (by omega) (by omega)
    rw [← this]
    exact permIn_refl d a b
  | succ s ih =>
    intro i j d hs h1 h2 h3 h4
    by_cases hij : i = j
    · subst hij
      rw [← rot_end d m i h1 (by omega)]
      exact permSwapR d a b _ _ _ h2 (by omega) h3 h4
    · by_cases hlt : j < i
      · by_cases hj : j = 0
        · subst hj
          have : rotS d (m - i) m (m + 0) = d := by
            refine arr_ext (by rw [size_rotS]) fun k hk => ?_
            rw [size_rotS] at hk
            rw [get_rotS d _ _ _ k hk]
            repeat' split
            all_goals (first | rfl | (congr 1; omega) | (exfalso; omega))
          rw [this]
          exact permIn_refl d a b
        · rw [← rot_left d m i j h1 (by omega) hlt]
          exact permIn_trans _ _ _ _ _ (permSwapR d a b (m - i) m j h2 (by omega) h3 h4) (ih (i - j) j _ (by omega) (by omega) (by omega) h3 (by rw [size_swapR]; exact h4))
      · by_cases hi : i = 0
        · subst hi
          have : rotS d (m - 0) m (m + j) = d := by
            refine arr_ext (by rw [size_rotS]) fun k hk => ?_
            rw [size_rotS] at hk
            rw [get_rotS d _ _ _ k hk]
            repeat' split
            all_goals (first | rfl | (congr 1; omega) | (exfalso; omega))
          rw [this]
          exact permIn_refl d a b
        · rw [← rot_right d m i j h1 (by omega) (by omega)]
          exact permIn_trans _ _ _ _ _ (permSwapR d a b (m - i) (m + j - i) i h2 (by omega) (by omega) h4) (ih i (j - i) _ (by omega) h1 h2 (by omega) (by rw [size_swapR]; exact h4))
theorem permRot' {d : Array α} {a b x m y : Nat} (h0 : a ≤ x) (h1 : x ≤ m) (h2 : m ≤ y) (h3 : y ≤ b) (h4 : b ≤ d.size) : PermIn a b d (rotS d x m y) := by
  have := permRot a b m ((m - x) + (y - m)) (m - x) (y - m) d (Nat.le_refl _) (by omega) (by omega) (by omega) h4
  rwa [show m - (m - x) = x by omega, show m + (y - m) = y by omega] at this

/-- What a binary search keeps. -/
def BS (Q : Nat → Bool) (lo hi i j : Nat) : Prop := (∀ k, lo ≤ k → k < i → Q k = true) ∧ ∀ k, j ≤ k → k < hi → Q k = false
def Anti (Q : Nat → Bool) (lo hi : Nat) : Prop := ∀ k k', lo ≤ k → k ≤ k' → k' < hi → Q k' = true → Q k = true
theorem BS.start (Q : Nat → Bool) (lo hi : Nat) : BS Q lo hi lo hi := ⟨fun k h1 h2 => absurd h2 (by omega), fun k h1 h2 => absurd h2 (by omega)⟩
theorem BS.up {Q : Nat → Bool} {lo hi i j h : Nat} (hb : BS Q lo hi i j) (ha : Anti Q lo hi) (h1 : h < hi) (hq : Q h = true) : BS Q lo hi (h + 1) j :=
  ⟨fun k k1 k2 => ha k h k1 (by omega) h1 hq, hb.2⟩
theorem BS.down {Q : Nat → Bool} {lo hi i j h : Nat} (hb : BS Q lo hi i j) (ha : Anti Q lo hi) (h1 : lo ≤ h) (hq : Q h = false) : BS Q lo hi i h :=
  ⟨hb.1, fun k k1 k2 => by
    cases hk : Q k with
    | false => rfl
    | true => rw [ha h k h1 k1 k2 hk] at hq; cases hq⟩

section
variable {lt : α → α → Bool} (hw : SWO lt)
include hw
omit [Inhabited α] in
theorem swo_asym {x y : α} (h : lt x y = true) : lt y x = false := by
  cases h2 : lt y x with
  | false => rfl
  | true => have := hw.trans _ _ _ h h2; rw [hw.irrefl] at this; cases this
theorem sorted_le {d : Array α} {a b i j : Nat} (h : SortedIn lt a b d) (h1 : a ≤ i) (h2 : i ≤ j) (h3 : j < b) : lt d[j]! d[i]! = false := by
  rcases Nat.lt_or_eq_of_le h2 with h2 | rfl
  · exact h i j h1 h2 h3
  · exact hw.irrefl _
/-- Case one: the left part is one element. -/
theorem anti1 {d : Array α} {m b : Nat} (x : α) (h : SortedIn lt m b d) : Anti (fun k => lt d[k]! x) m b := by
  intro k k' h1 h2 h3 h4
  dsimp only at h4 ⊢
  cases hk : lt d[k]! x with
  | true => rfl
  | false => rw [hw.ntrans _ _ _ (sorted_le hw h h1 h2 h3) hk] at h4; cases h4
theorem anti2 {d : Array α} {a m : Nat} (x : α) (h : SortedIn lt a m d) : Anti (fun k => !lt x d[k]!) a m := by
  intro k k' h1 h2 h3 h4
  dsimp only at h4 ⊢
  rw [Bool.not_eq_true'] at h4 ⊢
  exact hw.ntrans _ _ _ h4 (sorted_le hw h h1 h2 h3)
theorem anti3 {d : Array α} {a m b n lo hi : Nat} (h1 : SortedIn lt a m d) (h2 : SortedIn lt m b d) (hr : ∀ c, lo ≤ c → c < hi → a ≤ c ∧ c < m ∧ m ≤ n - 1 - c ∧ n - 1 - c < b) : Anti (fun k => !lt d[n - 1 - k]! d[k]!) lo hi := by
  intro k k' k1 k2 k3 k4
  dsimp only at k4 ⊢
  rw [Bool.not_eq_true'] at k4 ⊢
  obtain ⟨p1, p2, p3, p4⟩ := hr k k1 (by omega)
  obtain ⟨q1, q2, q3, q4⟩ := hr k' (by omega) k3
  exact hw.ntrans _ _ _ (sorted_le hw h2 (j := n - 1 - k) (i := n - 1 - k') q3 (by omega) p4) (hw.ntrans _ _ _ k4 (sorted_le hw h1 p1 k2 q2))
theorem merge1 {d : Array α} {a b i : Nat} (hs : b ≤ d.size) (h : SortedIn lt (a + 1) b d) (h1 : a + 1 ≤ i) (h2 : i ≤ b) (hb : BS (fun k => lt d[k]! d[a]!) (a + 1) b i i) : SortedIn lt a b (rotS d a (a + 1) i) := by
  intro p q hp hpq hq
  rw [get_rotS d _ _ _ p (by omega), get_rotS d _ _ _ q (by omega)]
  have B1 := hb.1
  have B2 := hb.2
  dsimp only at B1 B2
  have S := fun (x y : Nat) (h1 : a + 1 ≤ x) (h2 : x < y) (h3 : y < b) => h x y h1 h2 h3
  repeat' split
  all_goals first
    | (exfalso; omega)
    | exact S _ _ (by omega) (by omega) (by omega)
    | (rw [show p - (i - (a + 1)) = a by omega]; exact B2 _ (by omega) (by omega))
    | (rw [show q - (i - (a + 1)) = a by omega]; exact swo_asym hw (B1 _ (by omega) (by omega)))
theorem merge2 {d : Array α} {a m i : Nat} (hs : m + 1 ≤ d.size) (h : SortedIn lt a m d) (h1 : a ≤ i) (h2 : i ≤ m) (hb : BS (fun k => !lt d[m]! d[k]!) a m i i) : SortedIn lt a (m + 1) (rotS d i m (m + 1)) := by
  intro p q hp hpq hq
  rw [get_rotS d _ _ _ p (by omega), get_rotS d _ _ _ q (by omega)]
  have B1 := fun k h1 h2 => Bool.not_eq_true' _ ▸ hb.1 k h1 h2
  have B2 := fun k h1 h2 => hb.2 k h1 h2
  dsimp only at B1 B2
  have S := fun (x y : Nat) (h1 : a ≤ x) (h2 : x < y) (h3 : y < m) => h x y h1 h2 h3
  repeat' split
  all_goals first
    | (exfalso; omega)
    | exact S _ _ (by omega) (by omega) (by omega)
    | (rw [show q + (m - i) = m by omega]; exact B1 _ (by omega) (by omega))
    | (rw [show p + (m - i) = m by omega]; exact swo_asym hw (by have := B2 (q - (m + 1 - m)) (by omega) (by omega); simpa using this))
/-- The parts behind the rotation: all of the left half is at most all of the right half. -/
theorem halves {d : Array α} {a m b mid n start lo hi : Nat} (hsz : b ≤ d.size) (h1 : SortedIn lt a m d) (h2 : SortedIn lt m b d) (hn : n = mid + m) (ha : a < m) (hb : m < b) (hmid : a ≤ mid ∧ mid < b)
    (hlo : lo ≤ start) (hhi : start ≤ hi) (hcase : (lo = a ∧ hi = m) ∨ (lo = n - b ∧ hi = mid ∧ b ≤ n)) (hr : ∀ c, lo ≤ c → c < hi → a ≤ c ∧ c < m ∧ m ≤ n - 1 - c ∧ n - 1 - c < b) (hal : a ≤ lo) (him : hi ≤ m) (hend : n - start ≤ b ∧ m ≤ n - start)
    (hbs : BS (fun k => !lt d[n - 1 - k]! d[k]!) lo hi start start) :
    ∀ p q, a ≤ p → p < mid → mid ≤ q → q < b → lt (rotS d start m (n - start))[q]! (rotS d start m (n - start))[p]! = false := by
  have B1 : ∀ k, lo ≤ k → k < start → lt d[n - 1 - k]! d[k]! = false := fun k k1 k2 => by have := hbs.1 k k1 k2; simpa using this
  have B2 : ∀ k, start ≤ k → k < hi → lt d[n - 1 - k]! d[k]! = true := fun k k1 k2 => by have := hbs.2 k k1 k2; simpa using this
  have hb' : ∀ p q, a ≤ p → p < start → n - start ≤ q → q < b → lt d[q]! d[p]! = false := fun p q p1 p2 q1 q2 => by
    rcases Nat.lt_or_eq_of_le hlo with hlt | heq
    · have := B1 (start - 1) (by omega) (by omega)
      rw [show n - 1 - (start - 1) = n - start by omega] at this
      exact hw.ntrans _ _ _ (sorted_le hw h2 (i := n - start) (j := q) (by omega) q1 q2) (hw.ntrans _ _ _ this (sorted_le hw h1 p1 (by omega) (by omega)))
    · omega
  have hc' : ∀ p q, m ≤ p → p < n - start → start ≤ q → q < m → lt d[q]! d[p]! = false := fun p q p1 p2 q1 q2 => by
    rcases Nat.lt_or_eq_of_le hhi with hlt | heq
    · have := swo_asym hw (B2 start (Nat.le_refl _) hlt)
      rw [show n - 1 - start = n - start - 1 by omega] at this
      exact hw.ntrans _ _ _ (sorted_le hw h1 (i := start) (j := q) (by omega) q1 q2) (hw.ntrans _ _ _ this (sorted_le hw h2 (i := p) (j := n - start - 1) p1 (by omega) (by omega)))
    · omega
  intro p q p1 p2 q1 q2
  rw [get_rotS d _ _ _ p (by omega), get_rotS d _ _ _ q (by omega)]
  repeat' split
  all_goals first
    | (exfalso; omega)
    | exact h1 _ _ (by omega) (by omega) (by omega)
    | exact h2 _ _ (by omega) (by omega) (by omega)
    | exact hb' _ _ (by omega) (by omega) (by omega) (by omega)
    | exact hc' _ _ (by omega) (by omega) (by omega) (by omega)
end
theorem sorted_join {lt : α → α → Bool} {d : Array α} {a mid b : Nat} (h1 : SortedIn lt a mid d) (h2 : SortedIn lt mid b d) (h : ∀ p q, a ≤ p → p < mid → mid ≤ q → q < b → lt d[q]! d[p]! = false) : SortedIn lt a b d := by
  intro i j hi hij hj
  by_cases c1 : j < mid
  · exact h1 i j hi hij c1
  · by_cases c2 : i < mid
    · exact h i j hi c2 (by omega) hj
    · exact h2 i j (by omega) hij hj
/-- .. also when each half is permuted in itself. -/
theorem halves_perm {lt : α → α → Bool} {d e : Array α} {a mid b : Nat} (hm : a ≤ mid) (hb : mid ≤ b) (hs : b ≤ d.size) (hp1 : PermIn a mid d e) (h : ∀ p q, a ≤ p → p < mid → mid ≤ q → q < b → lt d[q]! d[p]! = false) :
    ∀ p q, a ≤ p → p < mid → mid ≤ q → q < b → lt e[q]! e[p]! = false := by
  intro p q p1 p2 q1 q2
  rw [hp1.2.1 q (.inr q1)]
  exact permIn_all d e a mid (fun x => lt d[q]! x = false) (by omega) hp1 (fun i i1 i2 => h i q i1 i2 q1 q2) p p1 p2
theorem halves_perm2 {lt : α → α → Bool} {d e : Array α} {a mid b : Nat} (hm : a ≤ mid) (hb : mid ≤ b) (hs : b ≤ d.size) (hp1 : PermIn mid b d e) (h : ∀ p q, a ≤ p → p < mid → mid ≤ q → q < b → lt d[q]! d[p]! = false) :
    ∀ p q, a ≤ p → p < mid → mid ≤ q → q < b → lt e[q]! e[p]! = false := by
  intro p q p1 p2 q1 q2
  rw [hp1.2.1 p (.inl p2)]
  exact permIn_all d e mid b (fun x => lt x d[p]! = false) hs hp1 (fun i i1 i2 => h p i p1 p2 i1 i2) q q1 q2
theorem sorted_same {lt : α → α → Bool} {d e : Array α} {a b : Nat} (h : SortedIn lt a b d) (he : ∀ k, a ≤ k → k < b → e[k]! = d[k]!) : SortedIn lt a b e := by
  intro i j hi hij hj
  rw [he i hi (by omega), he j (by omega) hj]
  exact h i j hi hij hj
theorem rot_triv (d : Array α) (x m y : Nat) (h : x = m ∨ y = m) : rotS d x m y = d := by
  refine arr_ext (by rw [size_rotS]) fun k hk => ?_
  rw [size_rotS] at hk
  rw [get_rotS d _ _ _ k hk]
  repeat' split
  all_goals (first | rfl | (congr 1; omega) | (exfalso; omega))
/-- What the rotation of a merge leaves. -/
structure SymParts (lt : α → α → Bool) (cf : α → α → Int) (a i mid e b : Nat) (d d1 : Array α) : Prop where
  size : d1.size = d.size
  perm : PermIn a b d d1
  s1 : SortedIn lt a i d1
  s2 : SortedIn lt i mid d1
  s3 : SortedIn lt mid e d1
  s4 : SortedIn lt e b d1
  hv : ∀ p q, a ≤ p → p < mid → mid ≤ q → q < b → lt d1[q]! d1[p]! = false
  x1 : ∀ p q, a ≤ p → p < i → i ≤ q → q < mid → lt d1[q]! d1[p]! = decide (cf d1[q]! d1[p]! < 0)
  x2 : ∀ p q, mid ≤ p → p < e → e ≤ q → q < b → lt d1[q]! d1[p]! = decide (cf d1[q]! d1[p]! < 0)
theorem sym_parts {lt : α → α → Bool} {cf : α → α → Int} (hw : SWO lt) {d : Array α} {a m b mid i lo hi : Nat} (hsz : b ≤ d.size) (h1 : SortedIn lt a m d) (h2 : SortedIn lt m b d) (hX : ∀ p q, a ≤ p → p < m → m ≤ q → q < b → lt d[q]! d[p]! = decide (cf d[q]! d[p]! < 0))
    (ha : a < m) (hb : m < b) (hmid : mid = (a + b) / 2) (hlo : lo ≤ i) (hhi : i ≤ hi) (hcase : (lo = a ∧ hi = m ∧ m ≤ mid) ∨ (lo = mid + m - b ∧ hi = mid ∧ mid < m)) (hbs : BS (fun t => !lt d[mid + m - 1 - t]! d[t]!) lo hi i i) :
    SymParts lt cf a i mid (mid + m - i) b d (rotS d i m (mid + m - i)) := by
  have hR := halves hw (start := i) (n := mid + m) (lo := lo) (hi := hi) hsz h1 h2 rfl ha hb (by omega) hlo hhi (by omega) (fun c c1 c2 => by omega) (by omega) (by omega) (by omega) hbs
  have G := fun k (hk : k < d.size) => get_rotS d i m (mid + m - i) k hk
  refine ⟨size_rotS _ _ _ _, permRot' (by omega) (by omega) (by omega) (by omega) hsz, ?_, ?_, ?_, ?_, hR, ?_, ?_⟩
  · intro p q p1 p2 p3
    rw [G p (by omega), G q (by omega)]
    repeat' split
    all_goals first | (exfalso; omega) | exact h1 _ _ (by omega) (by omega) (by omega)
  · intro p q p1 p2 p3
    rw [G p (by omega), G q (by omega)]
    repeat' split
    all_goals first | (exfalso; omega) | exact h2 _ _ (by omega) (by omega) (by omega)
  · intro p q p1 p2 p3
    rw [G p (by omega), G q (by omega)]
    repeat' split
    all_goals first | (exfalso; omega) | exact h1 _ _ (by omega) (by omega) (by omega)
  · intro p q p1 p2 p3
    rw [G p (by omega), G q (by omega)]
    repeat' split
    all_goals first | (exfalso; omega) | exact h2 _ _ (by omega) (by omega) (by omega)
  · intro p q p1 p2 p3 p4
    rw [G p (by omega), G q (by omega)]
    repeat' split
    all_goals first | (exfalso; omega) | exact hX _ _ (by omega) (by omega) (by omega) (by omega)
  · intro p q p1 p2 p3 p4
    rw [G p (by omega), G q (by omega)]
    repeat' split
    all_goals first | (exfalso; omega) | exact hX _ _ (by omega) (by omega) (by omega) (by omega)
/-- .. behind the merge of its left half. -/
structure SymHalf (lt : α → α → Bool) (cf : α → α → Int) (a mid e b : Nat) (d d2 : Array α) : Prop where
  size : d2.size = d.size
  perm : PermIn a b d d2
  s0 : SortedIn lt a mid d2
  s3 : SortedIn lt mid e d2
  s4 : SortedIn lt e b d2
  hv : ∀ p q, a ≤ p → p < mid → mid ≤ q → q < b → lt d2[q]! d2[p]! = false
  x2 : ∀ p q, mid ≤ p → p < e → e ≤ q → q < b → lt d2[q]! d2[p]! = decide (cf d2[q]! d2[p]! < 0)
theorem SymParts.half {lt : α → α → Bool} {cf : α → α → Int} {a i mid e b : Nat} {d d1 d2 : Array α} (h : SymParts lt cf a i mid e b d d1) (hm : a ≤ mid) (hme : mid ≤ e) (hb : mid ≤ b) (hs : b ≤ d.size) (hp : PermIn a mid d1 d2) (hs2 : SortedIn lt a mid d2) : SymHalf lt cf a mid e b d d2 where
  size := by rw [hp.1, h.size]
  perm := permIn_trans _ _ _ _ _ h.perm (permIn_mono _ _ _ _ _ _ (Nat.le_refl _) hb (by rw [h.size]; exact hs) hp)
  s0 := hs2
  s3 := sorted_same h.s3 fun k k1 k2 => hp.2.1 k (.inr k1)
  s4 := sorted_same h.s4 fun k k1 k2 => hp.2.1 k (.inr (by omega))
  hv := halves_perm hm hb (by rw [h.size]; exact hs) hp h.hv
  x2 := fun p q p1 p2 q1 q2 => by rw [hp.2.1 p (.inr p1), hp.2.1 q (.inr (by omega))]; exact h.x2 p q p1 p2 q1 q2
theorem SymParts.half0 {lt : α → α → Bool} {cf : α → α → Int} {a i mid e b : Nat} {d d1 : Array α} (h : SymParts lt cf a i mid e b d d1) (hm : a ≤ mid) (hme : mid ≤ e) (hb : mid ≤ b) (hs : b ≤ d.size) (hi : i = a ∨ i = mid) : SymHalf lt cf a mid e b d d1 := by
  refine h.half hm hme hb hs (permIn_refl _ _ _) ?_
  rcases hi with rfl | rfl
  · exact h.s2
  · exact h.s1
theorem SymHalf.done {lt : α → α → Bool} {cf : α → α → Int} {a mid e b : Nat} {d d2 d3 : Array α} (h : SymHalf lt cf a mid e b d d2) (hm : a ≤ mid) (hb : mid ≤ b) (hs : b ≤ d.size) (hp : PermIn mid b d2 d3) (hs3 : SortedIn lt mid b d3) : PermIn a b d d3 ∧ SortedIn lt a b d3 :=
  ⟨permIn_trans _ _ _ _ _ h.perm (permIn_mono _ _ _ _ _ _ hm (Nat.le_refl _) (by rw [h.size]; exact hs) hp),
    sorted_join (sorted_same h.s0 fun k k1 k2 => hp.2.1 k (.inl k2)) hs3 (halves_perm2 hm hb (by rw [h.size]; exact hs) hp h.hv)⟩
theorem SymHalf.done0 {lt : α → α → Bool} {cf : α → α → Int} {a mid e b : Nat} {d d2 : Array α} (h : SymHalf lt cf a mid e b d d2) (hm : a ≤ mid) (hb : mid ≤ b) (hs : b ≤ d.size) (he : e = mid ∨ e = b) : PermIn a b d d2 ∧ SortedIn lt a b d2 := by
  refine h.done hm hb hs (permIn_refl _ _ _) ?_
  rcases he with rfl | rfl
  · exact h.s4
  · exact h.s3
end Go.Proofs.YtdeeiifcjbmmiaaDoor
