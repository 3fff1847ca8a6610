/-
  Groups of texts that are alike, plainly: what both packages' rounds make are the same groups. No condition.
-/
import Derived.Test.YtnkdcmibafjplaaGreatDoorBase
namespace Go.Proofs.YtnkdcmibafjplaaGreatDoor
set_option linter.unusedVariables false

/-! ### One round -/
def rel1 (f t : Nat) (g : List Nat) : List Nat := g.map fun x => if x = f then t else x
theorem rel1_len (f t : Nat) (g : List Nat) : (rel1 f t g).length = g.length := by simp [rel1]
theorem rel1_at {f t : Nat} {g : List Nat} {k : Nat} : (rel1 f t g).getD k 0 = if k < g.length then (if g.getD k 0 = f then t else g.getD k 0) else 0 := by
  unfold rel1
  by_cases h : k < g.length
  · simp [List.getD_eq_getElem?_getD, h]
  · simp [List.getD_eq_getElem?_getD, h]
def mgA (al : Nat → Nat → Bool) (i k : Nat) (g : List Nat) : List Nat := if al i k = false ∨ g.getD i 0 = g.getD k 0 then g else rel1 (max (g.getD i 0) (g.getD k 0)) (min (g.getD i 0) (g.getD k 0)) g
def mgR (al : Nat → Nat → Bool) (i k : Nat) (g : List Nat) : List Nat := if al i k = true then rel1 (g.getD i 0) (g.getD k 0) g else g
def inA (al : Nat → Nat → Bool) (i : Nat) : Nat → List Nat → List Nat
  | 0, g => g
  | k + 1, g => mgA al i k (inA al i k g)
def inR (al : Nat → Nat → Bool) (i : Nat) : Nat → List Nat → List Nat
  | 0, g => g
  | k + 1, g => mgR al i k (inR al i k g)
/-- alike's groups ahead of text i; the reference's. -/
def gA (al : Nat → Nat → Bool) (L : Nat) : Nat → List Nat
  | 0 => List.replicate L 0
  | i + 1 => inA al i i ((gA al L i).set i i)
def gR (al : Nat → Nat → Bool) (L : Nat) : Nat → List Nat
  | 0 => List.range L
  | i + 1 => inR al i i (gR al L i)
theorem mgA_len (al : Nat → Nat → Bool) (i k : Nat) (g : List Nat) : (mgA al i k g).length = g.length := by
  unfold mgA; split
  · rfl
  · exact rel1_len _ _ _
theorem mgR_len (al : Nat → Nat → Bool) (i k : Nat) (g : List Nat) : (mgR al i k g).length = g.length := by
  unfold mgR; split
  · exact rel1_len _ _ _
  · rfl
theorem inA_len (al : Nat → Nat → Bool) (i : Nat) : ∀ (k : Nat) (g : List Nat), (inA al i k g).length = g.length
  | 0, g => rfl
  | k + 1, g => by rw [inA, mgA_len, inA_len al i k]
theorem inR_len (al : Nat → Nat → Bool) (i : Nat) : ∀ (k : Nat) (g : List Nat), (inR al i k g).length = g.length
  | 0, g => rfl
  | k + 1, g => by rw [inR, mgR_len, inR_len al i k]
theorem gA_len (al : Nat → Nat → Bool) (L : Nat) : ∀ i, (gA al L i).length = L
  | 0 => by simp [gA]
  | i + 1 => by rw [gA, inA_len, List.length_set, gA_len al L i]
theorem gR_len (al : Nat → Nat → Bool) (L : Nat) : ∀ i, (gR al L i).length = L
  | 0 => by simp [gR]
  | i + 1 => by rw [gR, inR_len, gR_len al L i]
/-- What holds while text n-1 is compared (n texts are in): labels of both, and that the groups are the same ones. -/
structure Two (L n : Nat) (a r : List Nat) : Prop where
  la : a.length = L
  lr : r.length = L
  low : ∀ p, p < n → a.getD p 0 ≤ p
  rep : ∀ p, p < n → a.getD (a.getD p 0) 0 = a.getD p 0
  zero : ∀ p, n ≤ p → a.getD p 0 = 0
  rlow : ∀ p, p < n → r.getD p 0 < n
  rest : ∀ p, n ≤ p → p < L → r.getD p 0 = p
  same : ∀ p q, p < n → q < n → (a.getD p 0 = a.getD q 0 ↔ r.getD p 0 = r.getD q 0)
theorem Two.start (L : Nat) : Two L 0 (List.replicate L 0) (List.range L) where
  la := by simp
  lr := by simp
  low := fun p h => by omega
  rep := fun p h => by omega
  zero := fun p _ => by
    rw [List.getD_eq_getElem?_getD, List.getElem?_replicate]; split <;> rfl
  rlow := fun p h => by omega
  rest := fun p _ h => by rw [List.getD_eq_getElem?_getD, List.getElem?_range h]; rfl
  same := fun p q h => by omega
theorem set_getD (g : List Nat) (i v p : Nat) (h : i < g.length) : (g.set i v).getD p 0 = if p = i then v else g.getD p 0 := by
  rw [List.getD_eq_getElem?_getD, List.getElem?_set]
  by_cases hp : i = p
  · subst hp; simp [h]
  · rw [if_neg hp, if_neg (fun e => hp e.symm), List.getD_eq_getElem?_getD]
theorem Two.enter {L n : Nat} {a r : List Nat} (T : Two L n a r) (hn : n < L) : Two L (n + 1) (a.set n n) r := by
  have hs := fun p => set_getD a n n p (by rw [T.la]; exact hn)
  refine ⟨by rw [List.length_set, T.la], T.lr, fun p hp => ?_, fun p hp => ?_, fun p hp => ?_, fun p hp => ?_, fun p hp hl => T.rest p (by omega) hl, fun p q hp hq => ?_⟩
  · rw [hs]; split
    · omega
    · exact T.low p (by omega)
  · rw [hs p]; split
    · rw [hs, if_pos rfl]
    · have h1 := T.low p (by omega)
      rw [hs, if_neg (by omega)]
      exact T.rep p (by omega)
  · rw [hs, if_neg (by omega)]; exact T.zero p (by omega)
  · by_cases h : p = n
    · subst h; rw [T.rest p (Nat.le_refl _) hn]; omega
    · have := T.rlow p (by omega); omega
  · rw [hs, hs]
    by_cases h1 : p = n
    · subst h1
      by_cases h2 : q = p
      · subst h2; simp
      · rw [if_pos rfl, if_neg h2, T.rest p (Nat.le_refl _) hn]
        have a1 := T.low q (by omega)
        have a2 := T.rlow q (by omega)
        constructor <;> intro e <;> omega
    · by_cases h2 : q = n
      · subst h2
        rw [if_pos rfl, if_neg h1, T.rest q (Nat.le_refl _) hn]
        have a1 := T.low p (by omega)
        have a2 := T.rlow p (by omega)
        constructor <;> intro e <;> omega
      · rw [if_neg h1, if_neg h2]; exact T.same p q (by omega) (by omega)
theorem Two.round {L n : Nat} {a r : List Nat} (T : Two L n a r) (al : Nat → Nat → Bool) {i k : Nat} (hi : i < n) (hk : k < n) (hn : n ≤ L) : Two L n (mgA al i k a) (mgR al i k r) := by
  unfold mgA mgR
  cases hal : al i k with
  | false => simpa using T
  | true =>
    simp only [Bool.true_eq_false, false_or, if_true]
    have hsm := T.same i k hi hk
    have hra : ∀ f t p, (rel1 f t r).getD p 0 = if p < L then (if r.getD p 0 = f then t else r.getD p 0) else 0 := fun f t p => by rw [rel1_at, T.lr]
    have haa : ∀ f t p, (rel1 f t a).getD p 0 = if p < L then (if a.getD p 0 = f then t else a.getD p 0) else 0 := fun f t p => by rw [rel1_at, T.la]
    by_cases he : a.getD i 0 = a.getD k 0
    · rw [if_pos he]
      have hr := hsm.1 he
      have hid : rel1 (r.getD i 0) (r.getD k 0) r = r := by
        unfold rel1
        conv => rhs; rw [← List.map_id r]
        refine List.map_congr_left fun x _ => ?_
        by_cases hx : x = r.getD i 0
        · rw [if_pos hx, hx, hr]; rfl
        · rw [if_neg hx]; rfl
      rw [hid]; exact T
    · rw [if_neg he]
      have hr : r.getD i 0 ≠ r.getD k 0 := fun e => he (hsm.2 e)
      have hli := T.low i hi
      have hlk := T.low k hk
      have hri := T.rep i hi
      have hrk := T.rep k hk
      generalize hx : a.getD i 0 = x at *
      generalize hy : a.getD k 0 = y at *
      generalize hp : max x y = f at *
      generalize hq : min x y = t at *
      have hft : (f = x ∧ t = y ∨ f = y ∧ t = x) ∧ t < f := by omega
      obtain ⟨hft, hlt⟩ := hft
      have hrt : a.getD t 0 = t := by rcases hft with ⟨_, rfl⟩ | ⟨_, rfl⟩ <;> assumption
      have hfn : f < n := by omega
      refine ⟨by rw [rel1_len, T.la], by rw [rel1_len, T.lr], fun p hp => ?_, fun p hp => ?_, fun p hp => ?_, fun p hp => ?_, fun p hp hl => ?_, fun p q hp hq => ?_⟩
      · have h1 := T.low p hp
        rw [haa, if_pos (by omega)]; split <;> omega
      · have h1 := T.low p hp
        have h2 := T.rep p hp
        rw [haa f t p, if_pos (by omega)]
        by_cases hpf : a.getD p 0 = f
        · rw [if_pos hpf, haa, if_pos (by omega), hrt, if_neg (by omega)]
        · rw [if_neg hpf, haa, if_pos (by omega), h2, if_neg hpf]
      · have h1 := T.zero p hp
        rw [haa, h1]; split
        · rw [if_neg (by omega)]
        · rfl
      · have h1 := T.rlow p hp
        have h2 := T.rlow k hk
        rw [hra, if_pos (by omega)]; split <;> omega
      · have h1 := T.rest p hp hl
        have h2 := T.rlow i hi
        rw [hra, if_pos hl, h1, if_neg (by omega)]
      · have hpL : p < L := by omega
        have hqL : q < L := by omega
        rw [haa f t p, haa f t q, hra _ _ p, hra _ _ q]
        simp only [if_pos hpL, if_pos hqL]
        have spq := T.same p q hp hq
        have spi := T.same p i hp hi
        have spk := T.same p k hp hk
        have sqi := T.same q i hq hi
        have sqk := T.same q k hq hk
        rw [hx] at spi sqi
        rw [hy] at spk sqk
        generalize a.getD p 0 = ap at *
        generalize a.getD q 0 = aq at *
        generalize r.getD p 0 = rp at *
        generalize r.getD q 0 = rq at *
        generalize r.getD i 0 = ri at *
        generalize r.getD k 0 = rk at *
        clear T haa hra
        rcases hft with ⟨rfl, rfl⟩ | ⟨rfl, rfl⟩
        · by_cases c1 : rp = ri
          · have b1 := spi.2 c1
            rw [if_pos b1, if_pos c1]
            by_cases c2 : rq = ri
            · have b2 := sqi.2 c2
              rw [if_pos b2, if_pos c2]; simp
            · have b2 : ¬ aq = f := fun e => c2 (sqi.1 e)
              rw [if_neg b2, if_neg c2]
              exact ⟨fun e => (sqk.1 e.symm).symm, fun e => (sqk.2 e.symm).symm⟩
          · have b1 : ¬ ap = f := fun e => c1 (spi.1 e)
            rw [if_neg b1, if_neg c1]
            by_cases c2 : rq = ri
            · have b2 := sqi.2 c2
              rw [if_pos b2, if_pos c2]; exact spk
            · have b2 : ¬ aq = f := fun e => c2 (sqi.1 e)
              rw [if_neg b2, if_neg c2]; exact spq
        · by_cases c1 : rp = ri
          · have b1 := spi.2 c1
            rw [if_neg (show ¬ ap = f by omega), if_pos c1, b1]
            by_cases c2 : rq = ri
            · have b2 := sqi.2 c2
              rw [if_neg (show ¬ aq = f by omega), if_pos c2, b2]; simp
            · rw [if_neg c2]
              by_cases c3 : rq = rk
              · have b3 := sqk.2 c3
                rw [if_pos b3]; simp [c3]
              · have b3 : ¬ aq = f := fun e => c3 (sqk.1 e)
                have b2 : ¬ aq = t := fun e => c2 (sqi.1 e)
                rw [if_neg b3]
                exact ⟨fun e => absurd e.symm b2, fun e => absurd e.symm c3⟩
          · have b1 : ¬ ap = t := fun e => c1 (spi.1 e)
            rw [if_neg c1]
            by_cases c2 : rq = ri
            · have b2 := sqi.2 c2
              rw [if_neg (show ¬ aq = f by omega), if_pos c2, b2]
              by_cases c3 : rp = rk
              · have b3 := spk.2 c3
                rw [if_pos b3]; simp [c3]
              · have b3 : ¬ ap = f := fun e => c3 (spk.1 e)
                rw [if_neg b3]
                exact ⟨fun e => absurd e b1, fun e => absurd e c3⟩
            · have b2 : ¬ aq = t := fun e => c2 (sqi.1 e)
              rw [if_neg c2]
              by_cases c3 : rp = rk
              · have b3 := spk.2 c3
                rw [if_pos b3]
                by_cases c4 : rq = rk
                · have b4 := sqk.2 c4
                  rw [if_pos b4]; simp [c3, c4]
                · have b4 : ¬ aq = f := fun e => c4 (sqk.1 e)
                  rw [if_neg b4]
                  exact ⟨fun e => absurd e.symm b2, fun e => absurd (e.symm.trans c3) c4⟩
              · have b3 : ¬ ap = f := fun e => c3 (spk.1 e)
                rw [if_neg b3]
                by_cases c4 : rq = rk
                · have b4 := sqk.2 c4
                  rw [if_pos b4]
                  exact ⟨fun e => absurd e b1, fun e => absurd (e.trans c4) c3⟩
                · have b4 : ¬ aq = f := fun e => c4 (sqk.1 e)
                  rw [if_neg b4]; exact spq
theorem Two.inner {L n : Nat} (al : Nat → Nat → Bool) {i : Nat} (hi : i < n) (hn : n ≤ L) : ∀ (k : Nat) (a r : List Nat), k ≤ n → Two L n a r → Two L n (inA al i k a) (inR al i k r)
  | 0, a, r, _, T => T
  | k + 1, a, r, hk, T => (Two.inner al hi hn k a r (by omega) T).round al hi (by omega) hn
theorem two_all (al : Nat → Nat → Bool) (L : Nat) : ∀ i, i ≤ L → Two L i (gA al L i) (gR al L i)
  | 0, _ => Two.start L
  | i + 1, h => Two.inner al (Nat.lt_succ_self i) h i _ _ (by omega) ((two_all al L i (by omega)).enter (by omega))
theorem two_mid (al : Nat → Nat → Bool) (L i k : Nat) (hi : i < L) (hk : k ≤ i + 1) : Two L (i + 1) (inA al i k ((gA al L i).set i i)) (inR al i k (gR al L i)) :=
  Two.inner al (Nat.lt_succ_self i) hi k _ _ hk ((two_all al L i (by omega)).enter hi)
/-! ### The groups -/
def firstB (g : List Nat) (i : Nat) : Bool := decide (∀ j, j < i → g.getD j 0 ≠ g.getD i 0)
def memL (g : List Nat) (L x : Nat) : List Nat := (List.range L).filter fun k => g.getD k 0 == x
/-- The groups of labels, as the reference writes them. -/
def grps (g : List Nat) : List (List Nat) := ((List.range g.length).filter (firstB g)).map fun i => memL g g.length (g.getD i 0)
theorem firstB_iff {g : List Nat} {i : Nat} : firstB g i = true ↔ ∀ j, j < i → g.getD j 0 ≠ g.getD i 0 := decide_eq_true_iff
theorem grps_same {L : Nat} {a r : List Nat} (T : Two L L a r) : grps a = grps r := by
  unfold grps
  rw [T.la, T.lr]
  have hf : (List.range L).filter (firstB a) = (List.range L).filter (firstB r) := by
    refine List.filter_congr fun i hi => ?_
    have hi := List.mem_range.1 hi
    rw [Bool.eq_iff_iff, firstB_iff, firstB_iff]
    exact ⟨fun h j hj e => h j hj ((T.same j i (by omega) hi).2 e), fun h j hj e => h j hj ((T.same j i (by omega) hi).1 e)⟩
  rw [hf]
  refine List.map_congr_left fun i hi => ?_
  have hi := List.mem_range.1 (List.mem_filter.1 hi).1
  unfold memL
  refine List.filter_congr fun k hk => ?_
  have hk := List.mem_range.1 hk
  rw [Bool.eq_iff_iff, beq_iff_eq, beq_iff_eq]
  exact T.same k i hk hi
/-- The first of its label is the one that is its own label. -/
theorem first_self {L : Nat} {a r : List Nat} (T : Two L L a r) {i : Nat} (hi : i < L) : firstB a i = true ↔ a.getD i 0 = i := by
  rw [firstB_iff]
  have h1 := T.low i hi
  have h2 := T.rep i hi
  constructor
  · intro h
    rcases Nat.lt_or_ge (a.getD i 0) i with hl | hl
    · exact absurd h2 (h _ hl)
    · omega
  · intro h j hj e
    have h3 := T.low j (by omega)
    omega
end Go.Proofs.YtnkdcmibafjplaaGreatDoor
