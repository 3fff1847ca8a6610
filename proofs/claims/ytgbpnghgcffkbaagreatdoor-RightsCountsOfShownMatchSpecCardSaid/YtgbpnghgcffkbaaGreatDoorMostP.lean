/-
  How often captures were shown: plain facts.
-/
import Derived.Test.YtgbpnghgcffkbaaGreatDoorShown
namespace Go.Proofs.YtgbpnghgcffkbaaGreatDoor
open Go.RowKit
set_option linter.unusedVariables false
set_option linter.unusedSimpArgs false

theorem bs_irr (x : List UInt8) : Op.bytesLess x x = false := by
  rcases scmp_tri x x with ⟨_, _, _, h⟩ | ⟨_, h, _, _⟩ | ⟨_, _, _, h⟩
  · exact absurd rfl h
  · exact h
  · exact absurd rfl h
theorem bs_tri {x y : List UInt8} (h : x ≠ y) : Op.bytesLess x y = true ∨ Op.bytesLess y x = true := by
  rcases scmp_tri x y with ⟨_, h1, _, _⟩ | ⟨_, _, _, h1⟩ | ⟨_, _, h1, _⟩
  · exact .inl h1
  · exact absurd h1 h
  · exact .inr h1
def inSpan (fr to : Int) (x : Shn) : Bool := decide (fr ≤ x.at_) && decide (x.at_ < to)
/-- The keys of what was shown in a span, in order. -/
def keysIn (fr to : Int) (s : List Shn) : List (List UInt8) := (s.filter (inSpan fr to)).map (·.key)
theorem keysIn_next {fr to : Int} {s : List Shn} {k : Nat} (h : k < s.length) : keysIn fr to (s.take (k + 1)) = keysIn fr to (s.take k) ++ (if inSpan fr to s[k] = true then [s[k].key] else []) := by
  unfold keysIn
  rw [List.take_succ_eq_append_getElem h, List.filter_append, List.map_append]
  congr 1
  by_cases e : inSpan fr to s[k] = true
  · rw [if_pos e, List.filter_cons_of_pos e]; rfl
  · rw [if_neg e, List.filter_cons_of_neg e]; rfl
theorem keysIn_len (fr to : Int) (s : List Shn) : (keysIn fr to s).length ≤ s.length := by
  unfold keysIn
  rw [List.length_map]
  exact List.length_filter_le _ _
/-- A key, and how often. -/
abbrev Tal := List UInt8 × Int
def tlt (a b : Tal) : Bool := decide (b.2 < a.2) || (decide (a.2 = b.2) && Op.bytesLess a.1 b.1)
theorem tlt_iff {a b : Tal} : tlt a b = true ↔ b.2 < a.2 ∨ (a.2 = b.2 ∧ Op.bytesLess a.1 b.1 = true) := by
  unfold tlt
  rw [Bool.or_eq_true, Bool.and_eq_true, decide_eq_true_eq, decide_eq_true_eq]
theorem tlt_irr (a : Tal) : ¬ tlt a a = true := by
  rw [tlt_iff, bs_irr]
  rintro (h | ⟨_, h⟩)
  · omega
  · cases h
theorem tlt_trans {a b c : Tal} (h1 : tlt a b = true) (h2 : tlt b c = true) : tlt a c = true := by
  rw [tlt_iff] at *
  rcases h1 with h1 | ⟨h1, h3⟩
  · rcases h2 with h2 | ⟨h2, h4⟩
    · exact .inl (by omega)
    · exact .inl (by omega)
  · rcases h2 with h2 | ⟨h2, h4⟩
    · exact .inl (by omega)
    · exact .inr ⟨by omega, less_trans h3 h4⟩
theorem tlt_tot {a b : Tal} (h : a ≠ b) : tlt a b = true ∨ tlt b a = true := by
  rw [tlt_iff, tlt_iff]
  rcases Int.lt_trichotomy a.2 b.2 with e | e | e
  · exact .inr (.inl e)
  · have hk : a.1 ≠ b.1 := fun h1 => h (Prod.ext h1 e)
    rcases bs_tri hk with h1 | h1
    · exact .inl (.inr ⟨e, h1⟩)
    · exact .inr (.inr ⟨e.symm, h1⟩)
  · exact .inl (.inl e)
/-- What is told of keys. -/
structure TalOk (ks : List (List UInt8)) (xs : List Tal) : Prop where
  sorted : xs.Pairwise (fun a b => tlt a b = true)
  mem : ∀ p, p ∈ xs ↔ p.1 ∈ ks ∧ p.2 = (ks.count p.1 : Int)
theorem tal_nodup {xs : List Tal} (h : xs.Pairwise (fun a b => tlt a b = true)) : xs.Nodup := by
  rw [List.Nodup]
  exact h.imp (fun {a b} h (e : a = b) => tlt_irr b (by rw [e] at h; exact h))
theorem tal_uniq {ks : List (List UInt8)} {xs ys : List Tal} (h1 : TalOk ks xs) (h2 : TalOk ks ys) : xs = ys := by
  have hp : xs.Perm ys := (List.perm_ext_iff_of_nodup (tal_nodup h1.sorted) (tal_nodup h2.sorted)).2 (fun p => by rw [h1.mem, h2.mem])
  refine List.Perm.eq_of_pairwise (le := fun a b => tlt a b = true) (fun a b _ _ h3 h4 => ?_) h1.sorted h2.sorted hp
  exact absurd (tlt_trans h3 h4) (tlt_irr a)
theorem tal_perm {ks ks' : List (List UInt8)} {xs : List Tal} (h : TalOk ks xs) (hp : ks.Perm ks') : TalOk ks' xs :=
  ⟨h.sorted, fun p => by rw [h.mem, hp.mem_iff, hp.count_eq]⟩
theorem tal_len {ks : List (List UInt8)} {xs : List Tal} (hn : xs.Nodup) (hm : ∀ p, p ∈ xs → p.1 ∈ ks ∧ p.2 = (ks.count p.1 : Int)) : xs.length ≤ ks.length := by
  have h1 : (xs.map (·.1)).Nodup := by
    rw [List.Nodup, List.pairwise_map]
    exact hn.imp_of_mem (fun {a b} ha hb h e => h (Prod.ext e (by rw [(hm a ha).2, (hm b hb).2, e])))
  have h2 : (xs.map (·.1)).length ≤ ks.length := by
    exact List.Nodup.length_le_of_subset h1 (fun x hx => by
      obtain ⟨p, hp, rfl⟩ := List.mem_map.1 hx
      exact (hm p hp).1)
  simpa using h2
/-! ### One more of a sorted list of keys -/
/-- The tallies of the first i keys of a sorted list. -/
structure Part (ks : List (List UInt8)) (i : Nat) (xs : List Tal) : Prop where
  le : i ≤ ks.length
  sorted : xs.Pairwise (fun a b => tlt a b = true)
  mem : ∀ p, p ∈ xs ↔ p.1 ∈ ks.take i ∧ p.2 = (ks.count p.1 : Int)
  cut : ∀ a ∈ ks.take i, ∀ b ∈ ks.drop i, Op.bytesLess a b = true
theorem part_zero (ks : List (List UInt8)) : Part ks 0 [] := ⟨Nat.zero_le _, List.Pairwise.nil, fun p => by simp, fun a ha => by simp at ha⟩
theorem part_end {ks : List (List UInt8)} {i : Nat} {xs : List Tal} (h : Part ks i xs) (hi : ks.length ≤ i) : TalOk ks xs :=
  ⟨h.sorted, fun p => by rw [h.mem, List.take_of_length_le hi]⟩
theorem part_len {ks : List (List UInt8)} {i : Nat} {xs : List Tal} (h : Part ks i xs) : xs.length ≤ ks.length :=
  tal_len (tal_nodup h.sorted) (fun p hp => ⟨List.mem_of_mem_take ((h.mem p).1 hp).1, ((h.mem p).1 hp).2⟩)
theorem srt_ge {ks : List (List UInt8)} (h : ks.Pairwise (fun a b => Op.bytesLess b a = false)) {i j : Nat} (hij : i ≤ j) (hj : j < ks.length) : Op.bytesLess ks[j] (ks[i]'(by omega)) = false := by
  rcases Nat.lt_or_ge i j with e | e
  · exact List.pairwise_iff_getElem.1 h i j (by omega) hj e
  · obtain rfl : i = j := by omega
    exact bs_irr _
theorem run_count {ks : List (List UInt8)} (h : ks.Pairwise (fun a b => Op.bytesLess b a = false)) {i n : Nat} {k : List UInt8} (hi : i + n ≤ ks.length) (hn : 0 < n) (hk : k = ks[i]'(by omega))
    (hc : ∀ a ∈ ks.take i, ∀ b ∈ ks.drop i, Op.bytesLess a b = true) (hr : ∀ m, (hm : m < n) → ks[i + m]'(by omega) = k) (he : ∀ hl : i + n < ks.length, ks[i + n] ≠ k) :
    ks.count k = n ∧ (∀ a ∈ ks.take (i + n), ∀ b ∈ ks.drop (i + n), Op.bytesLess a b = true) ∧ (∀ x, x ∈ ks.take (i + n) ↔ x ∈ ks.take i ∨ x = k) ∧ (∀ a ∈ ks.take i, Op.bytesLess a k = true) := by
  have hlow : ∀ a ∈ ks.take i, Op.bytesLess a k = true := fun a ha => hc a ha k (by rw [hk]; exact List.mem_iff_getElem.2 ⟨0, by rw [List.length_drop]; omega, by rw [List.getElem_drop]; rfl⟩)
  have hsplit : ks.take (i + n) = ks.take i ++ List.replicate n k := by
    apply List.ext_getElem
    · rw [List.length_take, List.length_append, List.length_take, List.length_replicate]; omega
    · intro j h1 h2
      rw [List.length_take] at h1
      rw [List.getElem_take]
      by_cases e : j < i
      · rw [List.getElem_append_left (by rw [List.length_take]; omega), List.getElem_take]
      · rw [List.getElem_append_right (by rw [List.length_take]; omega), List.getElem_replicate]
        have := hr (j - i) (by omega)
        rw [← this]
        congr 1
        omega
  have hup : ∀ b ∈ ks.drop (i + n), Op.bytesLess k b = true := by
    intro b hb
    obtain ⟨j, hj, rfl⟩ := List.mem_iff_getElem.1 hb
    rw [List.length_drop] at hj
    rw [List.getElem_drop]
    have h1 : ks[i + n + j]'(by omega) ≠ k := by
      intro e
      have h2 := srt_ge h (i := i + n) (j := i + n + j) (by omega) (by omega)
      have h3 := srt_ge h (i := i) (j := i + n) (by omega) (by omega)
      rw [e] at h2
      rw [← hk] at h3
      have h4 := he (by omega)
      rcases bs_tri h4 with q | q
      · rw [q] at h3; cases h3
      · rw [q] at h2; cases h2
    have h5 := srt_ge h (i := i) (j := i + n + j) (by omega) (by omega)
    rw [← hk] at h5
    rcases bs_tri h1 with q | q
    · rw [q] at h5; cases h5
    · exact q
  refine ⟨?_, ?_, ?_, hlow⟩
  · have : ks = ks.take (i + n) ++ ks.drop (i + n) := (List.take_append_drop _ _).symm
    rw [this, hsplit, List.count_append, List.count_append, List.count_replicate_self, List.count_eq_zero.2 (fun hm => by have := hlow k hm; rw [bs_irr] at this; cases this), List.count_eq_zero.2 (fun hm => by have := hup k hm; rw [bs_irr] at this; cases this)]
    omega
  · intro a ha b hb
    have hkb := hup b hb
    rw [hsplit, List.mem_append] at ha
    rcases ha with ha | ha
    · exact less_trans (hlow a ha) hkb
    · rw [List.eq_of_mem_replicate ha]; exact hkb
  · intro x
    rw [hsplit, List.mem_append]
    constructor
    · rintro (hx | hx)
      · exact .inl hx
      · exact .inr (List.eq_of_mem_replicate hx)
    · rintro (hx | hx)
      · exact .inl hx
      · subst hx
        refine .inr ?_
        rw [List.mem_replicate]
        exact ⟨by omega, rfl⟩
theorem part_next {ks : List (List UInt8)} (h : ks.Pairwise (fun a b => Op.bytesLess b a = false)) {i n p : Nat} {k : List UInt8} {xs : List Tal} (hp : Part ks i xs) (hi : i + n ≤ ks.length) (hn : 0 < n) (hk : k = ks[i]'(by omega))
    (hr : ∀ m, (hm : m < n) → ks[i + m]'(by omega) = k) (he : ∀ hl : i + n < ks.length, ks[i + n] ≠ k) (hpl : p ≤ xs.length) (h1 : ∀ h0 : 0 < p, (n : Int) ≤ (xs[p - 1]'(by omega)).2) (h2 : ∀ j, p ≤ j → (hj : j < xs.length) → xs[j].2 < (n : Int)) :
    Part ks (i + n) (xs.take p ++ (k, (n : Int)) :: xs.drop p) := by
  obtain ⟨hcount, hcut, hmem, hlow⟩ := run_count h hi hn hk hp.cut hr he
  have hbig : ∀ a ∈ xs.take p, (n : Int) ≤ a.2 := by
    intro a ha
    obtain ⟨j, hj, rfl⟩ := List.mem_iff_getElem.1 ha
    rw [List.length_take] at hj
    rw [List.getElem_take]
    have h0 : 0 < p := by omega
    have := h1 h0
    rcases Nat.lt_or_ge j (p - 1) with e | e
    · have h3 := List.pairwise_iff_getElem.1 hp.sorted j (p - 1) (by omega) (by omega) e
      rw [tlt_iff] at h3
      omega
    · obtain rfl : j = p - 1 := by omega
      exact this
  have hsm : ∀ b ∈ xs.drop p, b.2 < (n : Int) := by
    intro b hb
    obtain ⟨j, hj, rfl⟩ := List.mem_iff_getElem.1 hb
    rw [List.length_drop] at hj
    rw [List.getElem_drop]
    exact h2 _ (by omega) (by omega)
  have hkey : ∀ a ∈ xs, Op.bytesLess a.1 k = true := fun a ha => hlow _ ((hp.mem a).1 ha).1
  refine ⟨hi, ?_, fun q => ?_, hcut⟩
  · have hs := hp.sorted
    rw [← List.take_append_drop p xs, List.pairwise_append] at hs
    obtain ⟨s1, s2, s3⟩ := hs
    refine List.pairwise_append.2 ⟨s1, List.pairwise_cons.2 ⟨fun b hb => tlt_iff.2 (.inl (hsm b hb)), s2⟩, fun a ha b hb => ?_⟩
    rcases List.mem_cons.1 hb with e | e
    · subst e
      have := hbig a ha
      rcases Int.lt_or_le (n : Int) a.2 with q | q
      · exact tlt_iff.2 (.inl q)
      · exact tlt_iff.2 (.inr ⟨by show a.2 = (n : Int); omega, hkey a (List.mem_of_mem_take ha)⟩)
    · exact s3 a ha b e
  · have hx : q ∈ xs.take p ++ (k, (n : Int)) :: xs.drop p ↔ q ∈ xs ∨ q = (k, (n : Int)) := by
      rw [List.mem_append, List.mem_cons]
      have : q ∈ xs ↔ q ∈ xs.take p ∨ q ∈ xs.drop p := by rw [← List.mem_append, List.take_append_drop]
      rw [this]
      constructor
      · rintro (a | a | a)
        · exact .inl (.inl a)
        · exact .inr a
        · exact .inl (.inr a)
      · rintro ((a | a) | a)
        · exact .inl a
        · exact .inr (.inr a)
        · exact .inr (.inl a)
    rw [hx, hp.mem, hmem]
    constructor
    · rintro (⟨a, b⟩ | e)
      · exact ⟨.inl a, b⟩
      · subst e; exact ⟨.inr rfl, by show (n : Int) = _; rw [hcount]⟩
    · rintro ⟨a | a, b⟩
      · exact .inl ⟨a, b⟩
      · refine .inr (Prod.ext a ?_)
        rw [b, a, hcount]
/-! ### The faults -/
theorem shownF_len {s : List Shn} (h : shownFault s = 0) : s.length ≤ 3000 := by
  unfold shownFault at h
  split at h
  · cases h
  · omega
def mostF (s : List Shn) (fr to : Int) : Int := if shownFault s ≠ 0 then shownFault s else if withinB fr 0 253402300800 = false ∨ withinB to 0 253402300800 = false then 1 else 0
end Go.Proofs.YtgbpnghgcffkbaaGreatDoor
