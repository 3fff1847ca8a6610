/-
  The stable sort's blocks and rounds of merges: plain facts.
-/
import Derived.Test.YtdeeiifcjbmmiaaDoorSymM
import Derived.Shelf.SlSortCmp.Insertion
namespace Go.Proofs.YtdeeiifcjbmmiaaDoor
open Go.Sort
set_option linter.unusedVariables false
variable {α : Type} [Inhabited α]

theorem insInner_same {lt1 lt2 : α → α → Bool} (a : Nat) : ∀ (j : Nat) (d : Array α), j < d.size → (∀ p, a ≤ p → p < j → lt1 d[j]! d[p]! = lt2 d[j]! d[p]!) → insInner lt1 a j d = insInner lt2 a j d
  | 0, d, _, _ => by unfold insInner; rfl
  | j + 1, d, hj, h => by
    unfold insInner
    by_cases c : a ≤ j
    · rw [h j c (by omega)]
      split
      · refine insInner_same a j (swp d (j + 1) j) (by rw [size_swp']; omega) fun p p1 p2 => ?_
        rw [get_swp d (j + 1) j j (by omega) (by omega) (by omega), get_swp d (j + 1) j p (by omega) (by omega) (by omega), if_pos rfl, if_neg (by omega), if_neg (by omega)]
        exact h p p1 (by omega)
      · rfl
    · have hd : decide (j + 1 > a) = false := decide_eq_false (by omega)
      rw [hd]; rfl
theorem insInner_perm {lt : α → α → Bool} (a b : Nat) : ∀ (j : Nat) (d : Array α), j < b → b ≤ d.size → PermIn a b d (insInner lt a j d)
  | 0, d, _, _ => by unfold insInner; exact permIn_refl _ _ _
  | j + 1, d, hj, hb => by
    unfold insInner
    split
    · rename_i hc
      have : a < j + 1 := by
        simp only [Bool.and_eq_true, decide_eq_true_eq] at hc
        omega
      exact permIn_trans _ _ _ _ _ (swp_permIn _ _ _ _ _ (by omega) (by omega) (by omega) (by omega) hb) (insInner_perm a b j _ (by omega) (by rw [size_swp']; exact hb))
    · exact permIn_refl _ _ _
theorem insOuter_same {lt1 lt2 : α → α → Bool} (a b : Nat) : ∀ (n i : Nat) (d : Array α), b - i ≤ n → a ≤ i → b ≤ d.size → (∀ p q, a ≤ p → p < q → i ≤ q → q < b → lt1 d[q]! d[p]! = lt2 d[q]! d[p]!) → insOuter lt1 a b i d = insOuter lt2 a b i d := by
  intro n
  induction n with
  | zero =>
    intro i d h0 _ _ _
    rw [insOuter, if_neg (by omega), insOuter, if_neg (by omega)]
  | succ n ih =>
    intro i d h0 h1 hb h
    have u : ∀ lt : α → α → Bool, insOuter lt a b i d = if i < b then insOuter lt a b (i + 1) (insInner lt a i d) else d := fun lt => by rw [insOuter]
    rw [u lt1, u lt2]
    by_cases c : i < b
    · rw [if_pos c, if_pos c, insInner_same a i d (by omega) (fun p p1 p2 => h p i p1 p2 (Nat.le_refl _) c)]
      have hp := insInner_perm (lt := lt2) a (i + 1) i d (by omega) (by omega)
      refine ih (i + 1) _ (by omega) (by omega) (by rw [hp.1]; exact hb) fun p q p1 pq q1 q2 => ?_
      rw [hp.2.1 q (.inr q1)]
      by_cases cp : i + 1 ≤ p
      · rw [hp.2.1 p (.inr cp)]
        exact h p q p1 pq (by omega) q2
      · exact permIn_all d _ a (i + 1) (fun x => lt1 d[q]! x = lt2 d[q]! x) (by omega) hp (fun k k1 k2 => h k q k1 (by omega) (by omega) q2) p p1 (by omega)
    · rw [if_neg c, if_neg c]
theorem insSort_same {lt1 lt2 : α → α → Bool} {a b : Nat} {d : Array α} (hb : b ≤ d.size) (h : ∀ p q, a ≤ p → p < q → q < b → lt1 d[q]! d[p]! = lt2 d[q]! d[p]!) : insertionSort lt1 d a b = insertionSort lt2 d a b :=
  insOuter_same a b (b - (a + 1)) (a + 1) d (Nat.le_refl _) (by omega) hb (fun p q p1 pq _ q2 => h p q p1 pq q2)

theorem div_in {k s x : Nat} (h1 : k * s ≤ x) (h2 : x < k * s + s) : x / s = k := Nat.div_eq_of_lt_le h1 (by rw [Nat.succ_mul]; exact h2)
theorem div_lt_of {k s x : Nat} (hs : 0 < s) (h : x < k * s) : x / s < k := (Nat.div_lt_iff_lt_mul hs).2 h
theorem le_div_of {k s x : Nat} (hs : 0 < s) (h : k * s ≤ x) : k ≤ x / s := (Nat.le_div_iff_mul_le hs).2 h
theorem div_two (s x : Nat) (hs : 0 < s) {y : Nat} (h : y / s = x / s) : y / (2 * s) = x / (2 * s) := by
  rw [Nat.mul_comm 2 s, ← Nat.div_div_eq_div_mul, ← Nat.div_div_eq_div_mul, h]

section
variable {lt : α → α → Bool} {d0 : Array α}
/-- Each block of s is sorted, and holds what it held. -/
structure Full (lt : α → α → Bool) (d0 : Array α) (s : Nat) (dk : Array α) : Prop where
  size : dk.size = d0.size
  perm : PermIn 0 d0.size d0 dk
  src : ∀ i, i < d0.size → ∃ i', i' < d0.size ∧ dk[i]! = d0[i']! ∧ i' / s = i / s
  srt : ∀ i j, i < j → j < d0.size → i / s = j / s → lt dk[j]! dk[i]! = false
/-- .. of s as far as t. -/
structure Head (lt : α → α → Bool) (d0 : Array α) (s t : Nat) (dk : Array α) : Prop where
  size : dk.size = d0.size
  perm : PermIn 0 d0.size d0 dk
  same : ∀ i, t ≤ i → i < d0.size → dk[i]! = d0[i]!
  src : ∀ i, i < d0.size → ∃ i', i' < d0.size ∧ dk[i]! = d0[i']! ∧ i' / s = i / s
  srt : ∀ i j, i < j → j < t → j < d0.size → i / s = j / s → lt dk[j]! dk[i]! = false
/-- .. of 2 s as far as t, of s behind it. -/
structure Mix (lt : α → α → Bool) (d0 : Array α) (s t : Nat) (dk : Array α) : Prop where
  size : dk.size = d0.size
  perm : PermIn 0 d0.size d0 dk
  src : ∀ i, i < d0.size → ∃ i', i' < d0.size ∧ dk[i]! = d0[i']! ∧ i' / (2 * s) = i / (2 * s) ∧ (t ≤ i → i' / s = i / s)
  srt1 : ∀ i j, i < j → j < t → j < d0.size → i / (2 * s) = j / (2 * s) → lt dk[j]! dk[i]! = false
  srt2 : ∀ i j, t ≤ i → i < j → j < d0.size → i / s = j / s → lt dk[j]! dk[i]! = false
theorem Head.start (lt : α → α → Bool) (d0 : Array α) (s : Nat) : Head lt d0 s 0 d0 :=
  ⟨rfl, permIn_refl _ _ _, fun _ _ _ => rfl, fun i hi => ⟨i, hi, rfl, rfl⟩, fun i j _ h => absurd h (by omega)⟩
theorem Head.full {s t : Nat} {dk : Array α} (h : Head lt d0 s t dk) (ht : d0.size ≤ t) : Full lt d0 s dk :=
  ⟨h.size, h.perm, h.src, fun i j hij hj hq => h.srt i j hij (by omega) hj hq⟩
/-- The next block is sorted. -/
theorem Head.step {s q b : Nat} {dk d' : Array α} (hs : 0 < s) (h : Head lt d0 s (q * s) dk) (hab : q * s ≤ b) (hb : b ≤ d0.size) (hb2 : b ≤ q * s + s) (hp : PermIn (q * s) b dk d') (hs' : SortedIn lt (q * s) b d') : Head lt d0 s b d' where
  size := by rw [hp.1, h.size]
  perm := permIn_trans _ _ _ _ _ h.perm (permIn_mono _ _ _ _ _ _ (Nat.zero_le _) hb (by rw [h.size]; exact Nat.le_refl _) hp)
  same := fun i h1 h2 => by rw [hp.2.1 i (.inr h1)]; exact h.same i (by omega) h2
  src := fun i hi => by
    by_cases c : q * s ≤ i ∧ i < b
    · refine permIn_all dk d' (q * s) b (fun x => ∃ i', i' < d0.size ∧ x = d0[i']! ∧ i' / s = i / s) (by rw [h.size]; exact hb) hp (fun k k1 k2 => ⟨k, by omega, h.same k k1 (by omega), ?_⟩) i c.1 c.2
      rw [div_in k1 (by omega), div_in c.1 (by omega)]
    · rw [hp.2.1 i (by omega)]
      exact h.src i hi
  srt := fun i j hij hj hjn hq => by
    by_cases c : q * s ≤ i
    · exact hs' i j c hij hj
    · by_cases cj : j < q * s
      · rw [hp.2.1 i (.inl (by omega)), hp.2.1 j (.inl cj)]
        exact h.srt i j hij cj hjn hq
      · have h1 := div_lt_of hs (show i < q * s by omega)
        have h2 := le_div_of hs (show q * s ≤ j by omega)
        omega
theorem Full.mix {s : Nat} {dk : Array α} (hs : 0 < s) (h : Full lt d0 s dk) : Mix lt d0 s 0 dk where
  size := h.size
  perm := h.perm
  src := fun i hi => by
    obtain ⟨i', h1, h2, h3⟩ := h.src i hi
    exact ⟨i', h1, h2, div_two s i hs h3, fun _ => h3⟩
  srt1 := fun i j _ hj => absurd hj (by omega)
  srt2 := fun i j _ hij hj hq => h.srt i j hij hj hq
theorem Mix.full {s t : Nat} {dk : Array α} (h : Mix lt d0 s t dk) (ht : d0.size ≤ t) : Full lt d0 (2 * s) dk where
  size := h.size
  perm := h.perm
  src := fun i hi => by
    obtain ⟨i', h1, h2, h3, _⟩ := h.src i hi
    exact ⟨i', h1, h2, h3⟩
  srt := fun i j hij hj hq => h.srt1 i j hij (by omega) hj hq
theorem two_mul_div (q s : Nat) : q * (2 * s) = (2 * q) * s := by rw [← Nat.mul_assoc, Nat.mul_comm q 2]
/-- What a merge of the next two blocks asks. -/
theorem Mix.pre {cf : α → α → Int} {s q b : Nat} {dk : Array α} (hs : 0 < s) (h : Mix lt d0 s (q * (2 * s)) dk) (hK : ∀ p q, p < q → q < d0.size → lt d0[q]! d0[p]! = decide (cf d0[q]! d0[p]! < 0)) (hm : q * (2 * s) + s < b) (hb : b ≤ d0.size) (hb2 : b ≤ q * (2 * s) + s + s) :
    SortedIn lt (q * (2 * s)) (q * (2 * s) + s) dk ∧ SortedIn lt (q * (2 * s) + s) b dk ∧ ∀ p r, q * (2 * s) ≤ p → p < q * (2 * s) + s → q * (2 * s) + s ≤ r → r < b → lt dk[r]! dk[p]! = decide (cf dk[r]! dk[p]! < 0) := by
  have e := two_mul_div q s
  have L : ∀ x, q * (2 * s) ≤ x → x < q * (2 * s) + s → x / s = 2 * q := fun x h1 h2 => div_in (by omega) (by omega)
  have Rr : ∀ x, q * (2 * s) + s ≤ x → x < b → x / s = 2 * q + 1 := fun x h1 h2 => div_in (by rw [Nat.succ_mul]; omega) (by rw [Nat.succ_mul]; omega)
  refine ⟨fun i j hi hij hj => ?_, fun i j hi hij hj => ?_, fun p r p1 p2 r1 r2 => ?_⟩
  · exact h.srt2 i j hi hij (by omega) (by rw [L i hi (by omega), L j (by omega) hj])
  · exact h.srt2 i j (by omega) hij (by omega) (by rw [Rr i hi (by omega), Rr j (by omega) hj])
  · obtain ⟨p', k1, k2, _, k3⟩ := h.src p (by omega)
    obtain ⟨r', m1, m2, _, m3⟩ := h.src r (by omega)
    have k4 := k3 p1
    have m4 := m3 (by omega)
    rw [L p p1 p2] at k4
    rw [Rr r r1 r2] at m4
    rw [k2, m2]
    refine hK p' r' ?_ m1
    rcases Nat.lt_or_ge p' r' with hlt | hge
    · exact hlt
    · have := Nat.div_le_div_right (c := s) hge
      omega
/-- .. and leaves. -/
theorem Mix.merge {s q b : Nat} {dk d' : Array α} (hs : 0 < s) (h : Mix lt d0 s (q * (2 * s)) dk) (hb : b ≤ d0.size) (hab : q * (2 * s) ≤ b) (hb2 : b = q * (2 * s) + 2 * s ∨ (b = d0.size ∧ b ≤ q * (2 * s) + 2 * s)) (hp : PermIn (q * (2 * s)) b dk d') (hs' : SortedIn lt (q * (2 * s)) b d') :
    Mix lt d0 s ((q + 1) * (2 * s)) d' := by
  have e1 : (q + 1) * (2 * s) = q * (2 * s) + 2 * s := Nat.succ_mul _ _
  rw [e1]
  refine ⟨by rw [hp.1, h.size], permIn_trans _ _ _ _ _ h.perm (permIn_mono _ _ _ _ _ _ (Nat.zero_le _) hb (by rw [h.size]; exact Nat.le_refl _) hp), fun i hi => ?_, fun i j hij hj hjn hq => ?_, fun i j hi hij hj hq => ?_⟩
  · by_cases c : q * (2 * s) ≤ i ∧ i < b
    · have key := permIn_all dk d' (q * (2 * s)) b (fun x => ∃ i', i' < d0.size ∧ x = d0[i']! ∧ i' / (2 * s) = i / (2 * s)) (by rw [h.size]; exact hb) hp (fun k k1 k2 => by
        obtain ⟨k', m1, m2, m3, _⟩ := h.src k (by omega)
        exact ⟨k', m1, m2, by rw [m3, div_in k1 (by omega), div_in c.1 (by omega)]⟩) i c.1 c.2
      obtain ⟨i', m1, m2, m3⟩ := key
      exact ⟨i', m1, m2, m3, fun hge => by omega⟩
    · rw [hp.2.1 i (by omega)]
      obtain ⟨i', m1, m2, m3, m4⟩ := h.src i hi
      exact ⟨i', m1, m2, m3, fun hge => m4 (by omega)⟩
  · by_cases c : q * (2 * s) ≤ i
    · exact hs' i j c hij (by omega)
    · by_cases cj : j < q * (2 * s)
      · rw [hp.2.1 i (.inl (by omega)), hp.2.1 j (.inl cj)]
        exact h.srt1 i j hij cj hjn hq
      · have h1 := div_lt_of (show 0 < 2 * s by omega) (show i < q * (2 * s) by omega)
        have h2 := le_div_of (show 0 < 2 * s by omega) (show q * (2 * s) ≤ j by omega)
        omega
  · rw [hp.2.1 i (.inr (by omega)), hp.2.1 j (.inr (by omega))]
    exact h.srt2 i j (by omega) hij hj hq
/-- A last block that has no partner. -/
theorem Mix.tail {s q : Nat} {dk : Array α} (hs : 0 < s) (h : Mix lt d0 s (q * (2 * s)) dk) (hm : d0.size ≤ q * (2 * s) + s) : Full lt d0 (2 * s) dk where
  size := h.size
  perm := h.perm
  src := fun i hi => by
    obtain ⟨i', h1, h2, h3, _⟩ := h.src i hi
    exact ⟨i', h1, h2, h3⟩
  srt := fun i j hij hj hq => by
    have e := two_mul_div q s
    by_cases c : q * (2 * s) ≤ i
    · refine h.srt2 i j c hij hj ?_
      rw [div_in (k := 2 * q) (by omega) (by omega), div_in (k := 2 * q) (by omega) (by omega)]
    · by_cases cj : j < q * (2 * s)
      · exact h.srt1 i j hij cj hj hq
      · have h1 := div_lt_of (show 0 < 2 * s by omega) (show i < q * (2 * s) by omega)
        have h2 := le_div_of (show 0 < 2 * s by omega) (show q * (2 * s) ≤ j by omega)
        omega
theorem Full.sorted {s : Nat} {dk : Array α} (h : Full lt d0 s dk) (hs : d0.size ≤ s) : PermIn 0 d0.size d0 dk ∧ SortedIn lt 0 d0.size dk :=
  ⟨h.perm, fun i j _ hij hj => h.srt i j hij hj (by rw [Nat.div_eq_of_lt (by omega), Nat.div_eq_of_lt (by omega)])⟩
/-- The insertion sort of the next block, with the ties decided. -/
theorem Head.insert {cf : α → α → Int} {s q b : Nat} {dk : Array α} (hw : SWO lt) (hs : 0 < s) (h : Head lt d0 s (q * s) dk) (hK : ∀ p q, p < q → q < d0.size → lt d0[q]! d0[p]! = decide (cf d0[q]! d0[p]! < 0)) (hab : q * s ≤ b) (hb : b ≤ d0.size) (hb2 : b ≤ q * s + s) :
    Head lt d0 s b (insertionSort (Go.Proofs.ltOf cf) dk (q * s) b) := by
  have e : insertionSort (Go.Proofs.ltOf cf) dk (q * s) b = insertionSort lt dk (q * s) b := insSort_same (by rw [h.size]; exact hb) fun p r p1 pr r2 => by
    rw [h.same p p1 (by omega), h.same r (by omega) (by omega), hK p r pr (by omega)]
    rfl
  rw [e]
  obtain ⟨h1, h2⟩ := insertionSort_holds hw dk (q * s) b hab (by rw [h.size]; exact hb)
  exact h.step hs hab hb hb2 h1 h2
theorem Head.insert' {cf : α → α → Int} {s q a b : Nat} {dk : Array α} (h : Head lt d0 s a dk) (hw : SWO lt) (hs : 0 < s) (ha : a = q * s) (hK : ∀ p q, p < q → q < d0.size → lt d0[q]! d0[p]! = decide (cf d0[q]! d0[p]! < 0)) (hab : a ≤ b) (hb : b ≤ d0.size) (hb2 : b ≤ a + s) :
    Head lt d0 s b (insertionSort (Go.Proofs.ltOf cf) dk a b) := by
  subst ha
  exact h.insert hw hs hK hab hb hb2
theorem Mix.pre' {cf : α → α → Int} {s q a b : Nat} {dk : Array α} (h : Mix lt d0 s a dk) (hs : 0 < s) (ha : a = q * (2 * s)) (hK : ∀ p q, p < q → q < d0.size → lt d0[q]! d0[p]! = decide (cf d0[q]! d0[p]! < 0)) (hm : a + s < b) (hb : b ≤ d0.size) (hb2 : b ≤ a + 2 * s) :
    SortedIn lt a (a + s) dk ∧ SortedIn lt (a + s) b dk ∧ ∀ p r, a ≤ p → p < a + s → a + s ≤ r → r < b → lt dk[r]! dk[p]! = decide (cf dk[r]! dk[p]! < 0) := by
  subst ha
  exact Mix.pre hs h hK hm hb (by omega)
theorem Mix.merge' {s q a b : Nat} {dk d' : Array α} (h : Mix lt d0 s a dk) (hs : 0 < s) (ha : a = q * (2 * s)) (hb : b ≤ d0.size) (hab : a ≤ b) (hb2 : b = a + 2 * s ∨ (b = d0.size ∧ b ≤ a + 2 * s)) (hp : PermIn a b dk d') (hs' : SortedIn lt a b d') :
    Mix lt d0 s (a + 2 * s) d' := by
  subst ha
  have := Mix.merge hs h hb hab hb2 hp hs'
  rwa [Nat.succ_mul] at this
theorem Mix.tail' {s q a : Nat} {dk : Array α} (h : Mix lt d0 s a dk) (hs : 0 < s) (ha : a = q * (2 * s)) (hm : d0.size ≤ a + s) : Full lt d0 (2 * s) dk := by
  subst ha
  exact Mix.tail hs h hm
end
end Go.Proofs.YtdeeiifcjbmmiaaDoor
