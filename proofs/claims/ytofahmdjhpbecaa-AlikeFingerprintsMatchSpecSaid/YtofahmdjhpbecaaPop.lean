/-
  How many bits of 64 are set: the count in parallel ('OnesCount64') is the sum of the bits; it is a distance.
-/
import Derived.Test.YtofahmdjhpbecaaProg
namespace Go.Proofs.Ytofahmdjhpbecaa.Pop
def ofD (B : Nat) : List Nat → Nat
  | [] => 0
  | a :: l => a + B * ofD B l
def pairs : List Nat → List Nat
  | a :: b :: l => (a + b) :: pairs l
  | l => l
theorem sum_pairs : ∀ l : List Nat, (pairs l).sum = l.sum
  | [] => rfl
  | [a] => rfl
  | a :: b :: l => by rw [pairs, List.sum_cons, sum_pairs l, List.sum_cons, List.sum_cons, Nat.add_assoc]
def mask (k : Nat) : Nat → Nat
  | 0 => 0
  | m + 1 => (2 ^ k - 1) + 2 ^ (2 * k) * mask k m
theorem and_split (p c s m : Nat) (hc : c < 2 ^ m) : p &&& (c + 2 ^ m * s) = (p % 2 ^ m &&& c) + 2 ^ m * (p / 2 ^ m &&& s) := by
  apply Nat.eq_of_testBit_eq
  intro j
  have h1 : (p % 2 ^ m &&& c) < 2 ^ m := Nat.lt_of_le_of_lt Nat.and_le_right hc
  rw [Nat.testBit_and, Nat.add_comm c, Nat.add_comm (p % 2 ^ m &&& c), Nat.testBit_two_pow_mul_add _ hc, Nat.testBit_two_pow_mul_add _ h1, Nat.testBit_and, Nat.testBit_and, Nat.testBit_mod_two_pow, Nat.testBit_div_two_pow]
  by_cases h : j < m
  · simp [h]
  · simp [h, show j - m + m = j by omega]
theorem and_mask (p k m : Nat) : p &&& mask k (m + 1) = p % 2 ^ k + 2 ^ (2 * k) * (p / 2 ^ (2 * k) &&& mask k m) := by
  have hk : 2 ^ k ≤ 2 ^ (2 * k) := Nat.pow_le_pow_right (by decide) (by omega)
  have h0 : 0 < 2 ^ k := Nat.two_pow_pos k
  rw [mask, and_split _ _ _ _ (by omega), Nat.and_two_pow_sub_one_eq_mod, Nat.mod_mod_of_dvd _ (Nat.pow_dvd_pow 2 (by omega))]
theorem two_k (k : Nat) : 2 ^ (2 * k) = 2 ^ k * 2 ^ k := by rw [← Nat.pow_add]; congr 1; omega
/-- Two neighbours into one: the first two steps. -/
theorem fold1 (k : Nat) (hk : 0 < k) : ∀ (m : Nat) (l : List Nat), l.length = 2 * m → (∀ x ∈ l, x < 2 ^ k) → (ofD (2 ^ k) l / 2 ^ k &&& mask k m) + (ofD (2 ^ k) l &&& mask k m) = ofD (2 ^ (2 * k)) (pairs l)
  | 0, l, h, _ => by
    obtain rfl := List.eq_nil_of_length_eq_zero h
    simp [ofD, pairs, mask]
  | m + 1, a :: b :: l, h, hl => by
    have ih := fold1 k hk m l (by simp at h; omega) (fun x hx => hl x (by simp [hx]))
    have ha := hl a (by simp)
    have hb := hl b (by simp)
    have h0 : 0 < 2 ^ k := Nat.two_pow_pos k
    rw [and_mask, and_mask, pairs, ofD, ofD, ofD, ← ih]
    generalize ofD (2 ^ k) l = R
    have e1 : (a + 2 ^ k * (b + 2 ^ k * R)) / 2 ^ k = b + 2 ^ k * R := by rw [Nat.add_mul_div_left _ _ h0, Nat.div_eq_of_lt ha, Nat.zero_add]
    have e2 : (b + 2 ^ k * R) / 2 ^ k = R := by rw [Nat.add_mul_div_left _ _ h0, Nat.div_eq_of_lt hb, Nat.zero_add]
    have e3 : (b + 2 ^ k * R) % 2 ^ k = b := by rw [Nat.add_mul_mod_self_left, Nat.mod_eq_of_lt hb]
    have e4 : (a + 2 ^ k * (b + 2 ^ k * R)) % 2 ^ k = a := by rw [Nat.add_mul_mod_self_left, Nat.mod_eq_of_lt ha]
    rw [e1, e3, e4, two_k, ← Nat.div_div_eq_div_mul, e2, ← Nat.div_div_eq_div_mul, e1, e2, Nat.mul_add]
    omega
theorem ofD_mod (k : Nat) (l : List Nat) (c : Nat) (hc : c < 2 ^ k) (hl : ∀ x ∈ l, x ≤ c) : ofD (2 ^ k) l % 2 ^ k ≤ c := by
  cases l with
  | nil => simp [ofD]
  | cons a l =>
    have := hl a (by simp)
    rw [ofD, Nat.add_mul_mod_self_left, Nat.mod_eq_of_lt (by omega)]; exact this
/-- Small neighbours: added first, cut then. -/
theorem fold2 (k c : Nat) (hc : 2 * c < 2 ^ k) : ∀ (m : Nat) (l : List Nat), l.length = 2 * m → (∀ x ∈ l, x ≤ c) → (ofD (2 ^ k) l / 2 ^ k + ofD (2 ^ k) l &&& mask k m) = ofD (2 ^ (2 * k)) (pairs l)
  | 0, l, h, _ => by
    obtain rfl := List.eq_nil_of_length_eq_zero h
    simp [ofD, pairs, mask]
  | m + 1, a :: b :: l, h, hl => by
    have ih := fold2 k c hc m l (by simp at h; omega) (fun x hx => hl x (by simp [hx]))
    have hm := ofD_mod k l c (by omega) (fun x hx => hl x (by simp [hx]))
    have ha := hl a (by simp)
    have hb := hl b (by simp)
    have h0 : 0 < 2 ^ k := Nat.two_pow_pos k
    rw [and_mask, pairs, ofD, ofD, ofD, ← ih]
    generalize ofD (2 ^ k) l = R at *
    have hR := Nat.div_add_mod R (2 ^ k)
    have e1 : (a + 2 ^ k * (b + 2 ^ k * R)) / 2 ^ k = b + 2 ^ k * R := by rw [Nat.add_mul_div_left _ _ h0, Nat.div_eq_of_lt (by omega), Nat.zero_add]
    have e5 : b + 2 ^ k * R + (a + 2 ^ k * (b + 2 ^ k * R)) = (a + b) + 2 ^ k * ((b + R % 2 ^ k) + 2 ^ k * (R / 2 ^ k + R)) := by
      have e6 : 2 ^ k * R = 2 ^ k * (2 ^ k * (R / 2 ^ k)) + 2 ^ k * (R % 2 ^ k) := by rw [← Nat.mul_add, hR]
      simp only [Nat.mul_add]
      omega
    have f1 : (a + b) / 2 ^ k = 0 := Nat.div_eq_of_lt (by omega)
    have f2 : (b + R % 2 ^ k) / 2 ^ k = 0 := Nat.div_eq_of_lt (by omega)
    have f3 : (a + b) % 2 ^ k = a + b := Nat.mod_eq_of_lt (by omega)
    rw [e1, e5, Nat.add_mul_mod_self_left, f3, two_k, ← Nat.div_div_eq_div_mul, Nat.add_mul_div_left _ _ h0, f1, Nat.zero_add, Nat.add_mul_div_left _ _ h0, f2, Nat.zero_add]
/-- The bits of a number. -/
def bitsL : Nat → Nat → List Nat
  | 0, _ => []
  | f + 1, n => n % 2 :: bitsL f (n / 2)
theorem bitsL_len : ∀ f n, (bitsL f n).length = f
  | 0, _ => rfl
  | f + 1, n => by rw [bitsL, List.length_cons, bitsL_len]
theorem bitsL_lt : ∀ f n, ∀ x ∈ bitsL f n, x < 2
  | 0, _, x, h => by cases h
  | f + 1, n, x, h => by
    rw [bitsL, List.mem_cons] at h
    rcases h with rfl | h
    · omega
    · exact bitsL_lt f _ x h
theorem bitsL_val : ∀ f n, n < 2 ^ f → ofD 2 (bitsL f n) = n
  | 0, n, h => by simp at h; subst h; rfl
  | f + 1, n, h => by
    rw [bitsL, ofD, bitsL_val f (n / 2) (by rw [Nat.pow_succ] at h; omega)]; omega
theorem pairs_len : ∀ (m : Nat) (l : List Nat), l.length = 2 * m → (pairs l).length = m
  | 0, l, h => by obtain rfl := List.eq_nil_of_length_eq_zero h; rfl
  | m + 1, a :: b :: l, h => by rw [pairs, List.length_cons, pairs_len m l (by simp at h; omega)]
theorem pairs_le (c : Nat) : ∀ (m : Nat) (l : List Nat), l.length = 2 * m → (∀ x ∈ l, x ≤ c) → ∀ x ∈ pairs l, x ≤ 2 * c
  | 0, l, h, _ => by obtain rfl := List.eq_nil_of_length_eq_zero h; intro x h; cases h
  | m + 1, a :: b :: l, h, hl => by
    intro x hx
    rw [pairs, List.mem_cons] at hx
    have ha := hl a (by simp)
    have hb := hl b (by simp)
    rcases hx with rfl | hx
    · omega
    · exact pairs_le c m l (by simp at h; omega) (fun x hx => hl x (by simp [hx])) x hx
/-- How many bits are set. -/
def pc (n : Nat) : Nat := (bitsL 64 n).sum
theorem mask1 : mask 1 32 = 6148914691236517205 := by decide
theorem mask2 : mask 2 16 = 3689348814741910323 := by decide
theorem mask4 : mask 4 8 = 1085102592571150095 := by decide
def s1 (x : Nat) : Nat := (x / 2 &&& 6148914691236517205) + (x &&& 6148914691236517205)
def s2 (x : Nat) : Nat := (x / 4 &&& 3689348814741910323) + (x &&& 3689348814741910323)
def s3 (x : Nat) : Nat := (x / 16 + x) &&& 1085102592571150095
def s4 (x : Nat) : Nat := x + x / 256
def s5 (x : Nat) : Nat := x + x / 65536
def s6 (x : Nat) : Nat := x + x / 4294967296
def addL : List Nat → List Nat → List Nat
  | a :: l, b :: m => (a + b) :: addL l m
  | [], m => m
  | l, [] => l
theorem ofD_add (B : Nat) : ∀ l m, ofD B l + ofD B m = ofD B (addL l m)
  | [], m => by simp [addL, ofD]
  | a :: l, [] => by simp [addL, ofD]
  | a :: l, b :: m => by rw [addL, ofD, ofD, ofD, ← ofD_add B l m, Nat.mul_add]; omega
theorem ofD_drop (B : Nat) (h0 : 0 < B) : ∀ (k : Nat) (l : List Nat), (∀ x ∈ l, x < B) → ofD B l / B ^ k = ofD B (l.drop k)
  | 0, l, _ => by simp
  | k + 1, [], _ => by simp [ofD]
  | k + 1, a :: l, h => by
    rw [List.drop_succ_cons, ← ofD_drop B h0 k l (fun x hx => h x (by simp [hx])), ofD, Nat.pow_succ', ← Nat.div_div_eq_div_mul, Nat.add_mul_div_left _ _ h0, Nat.div_eq_of_lt (h a (by simp)), Nat.zero_add]
theorem ofD_le (B c : Nat) : ∀ l : List Nat, (∀ x ∈ l, x ≤ c) → ofD B l ≤ c * ofD B (List.replicate l.length 1)
  | [], _ => by simp [ofD]
  | a :: l, h => by
    have ih := Nat.mul_le_mul_left B (ofD_le B c l (fun x hx => h x (by simp [hx])))
    have ha := h a (by simp)
    rw [List.length_cons, List.replicate_succ, ofD, ofD, Nat.mul_add, Nat.mul_one, Nat.mul_left_comm]
    exact Nat.add_le_add ha ih
theorem ones8 : ofD 256 (List.replicate 8 1) = 72340172838076673 := by decide
theorem ofD_le8 (c : Nat) (l : List Nat) (hn : l.length = 8) (h : ∀ x ∈ l, x ≤ c) : ofD 256 l ≤ c * 72340172838076673 := by
  have := ofD_le 256 c l h
  rwa [hn, ones8] at this
theorem eight (l : List Nat) (h : l.length = 8) (hl : ∀ x ∈ l, x ≤ 8) : ofD 256 l ≤ 578721382704613384 ∧ s4 (ofD 256 l) ≤ 1157442765409226768 ∧ s5 (s4 (ofD 256 l)) ≤ 2314885530818453536 ∧ s6 (s5 (s4 (ofD 256 l))) ≤ 4629771061636907072 ∧ s6 (s5 (s4 (ofD 256 l))) % 128 = l.sum := by
  match l, h with
  | [a, b, c, d, e, f, g, h], _ =>
    have hl' := hl
    simp only [List.mem_cons, List.not_mem_nil, or_false, forall_eq_or_imp, forall_eq] at hl'
    obtain ⟨ha, hb, hc, hd, he, hf, hg, hh⟩ := hl'
    have m1 := ofD_le8 8 _ rfl hl
    have q1 : s4 (ofD 256 [a, b, c, d, e, f, g, h]) = ofD 256 [a + b, b + c, c + d, d + e, e + f, f + g, g + h, h] := by
      have := ofD_drop 256 (by decide) 1 [a, b, c, d, e, f, g, h] (fun x hx => by have := hl x hx; omega)
      rw [Nat.pow_one] at this
      rw [s4, this, ofD_add]; rfl
    have h1 : ∀ x ∈ [a + b, b + c, c + d, d + e, e + f, f + g, g + h, h], x ≤ 16 := by
      simp only [List.mem_cons, List.not_mem_nil, or_false, forall_eq_or_imp, forall_eq]; omega
    have m2 := ofD_le8 16 _ rfl h1
    have q2 : s5 (s4 (ofD 256 [a, b, c, d, e, f, g, h])) = ofD 256 [a + b + (c + d), b + c + (d + e), c + d + (e + f), d + e + (f + g), e + f + (g + h), f + g + h, g + h, h] := by
      have := ofD_drop 256 (by decide) 2 [a + b, b + c, c + d, d + e, e + f, f + g, g + h, h] (fun x hx => by have := h1 x hx; omega)
      rw [show 256 ^ 2 = 65536 by decide] at this
      rw [q1, s5, this, ofD_add]; rfl
    have h2 : ∀ x ∈ [a + b + (c + d), b + c + (d + e), c + d + (e + f), d + e + (f + g), e + f + (g + h), f + g + h, g + h, h], x ≤ 32 := by
      simp only [List.mem_cons, List.not_mem_nil, or_false, forall_eq_or_imp, forall_eq]; omega
    have m3 := ofD_le8 32 _ rfl h2
    have q3 : s6 (s5 (s4 (ofD 256 [a, b, c, d, e, f, g, h]))) = ofD 256 [a + b + (c + d) + (e + f + (g + h)), b + c + (d + e) + (f + g + h), c + d + (e + f) + (g + h), d + e + (f + g) + h, e + f + (g + h), f + g + h, g + h, h] := by
      have := ofD_drop 256 (by decide) 4 [a + b + (c + d), b + c + (d + e), c + d + (e + f), d + e + (f + g), e + f + (g + h), f + g + h, g + h, h] (fun x hx => by have := h2 x hx; omega)
      rw [show 256 ^ 4 = 4294967296 by decide] at this
      rw [q2, s6, this, ofD_add]; rfl
    have h3 : ∀ x ∈ [a + b + (c + d) + (e + f + (g + h)), b + c + (d + e) + (f + g + h), c + d + (e + f) + (g + h), d + e + (f + g) + h, e + f + (g + h), f + g + h, g + h, h], x ≤ 64 := by
      simp only [List.mem_cons, List.not_mem_nil, or_false, forall_eq_or_imp, forall_eq]; omega
    have m4 := ofD_le8 64 _ rfl h3
    refine ⟨m1, by rw [q1]; exact m2, by rw [q2]; exact m3, by rw [q3]; exact m4, ?_⟩
    rw [q3, ofD]
    have hs : [a, b, c, d, e, f, g, h].sum = a + b + (c + d) + (e + f + (g + h)) := by simp only [List.sum_cons, List.sum_nil]; omega
    rw [hs]
    generalize ofD 256 _ = R
    omega
theorem swar (n : Nat) (h : n < 18446744073709551616) : s1 n ≤ 12297829382473034410 ∧ s2 (s1 n) ≤ 7378697629483820646 ∧ s3 (s2 (s1 n)) ≤ 578721382704613384 ∧ s4 (s3 (s2 (s1 n))) ≤ 1157442765409226768 ∧ s5 (s4 (s3 (s2 (s1 n)))) ≤ 2314885530818453536 ∧ s6 (s5 (s4 (s3 (s2 (s1 n))))) ≤ 4629771061636907072 ∧ s6 (s5 (s4 (s3 (s2 (s1 n))))) % 128 = pc n := by
  have l0 := bitsL_len 64 n
  have v0 := bitsL_val 64 n h
  have b0 := bitsL_lt 64 n
  have hs : pc n = (bitsL 64 n).sum := rfl
  generalize bitsL 64 n = l at *
  have t1 := fold1 1 (by decide) 32 l l0 b0
  have l1 := pairs_len 32 l l0
  have b1 := pairs_le 1 32 l l0 (fun x hx => by have := b0 x hx; omega)
  have s1' := sum_pairs l
  rw [mask1, show 2 ^ 1 = 2 by rfl, v0, show 2 ^ (2 * 1) = 4 by rfl] at t1
  have u1 : s1 n = ofD 4 (pairs l) := t1
  have m1 : s1 n ≤ 12297829382473034410 := by
    unfold s1
    have a1 : n / 2 &&& 6148914691236517205 ≤ 6148914691236517205 := Nat.and_le_right
    have a2 : n &&& 6148914691236517205 ≤ 6148914691236517205 := Nat.and_le_right
    omega
  generalize pairs l = l at *
  have t2 := fold1 2 (by decide) 16 l l1 (fun x hx => by have := b1 x hx; show x < 4; omega)
  have l2 := pairs_len 16 l l1
  have b2 := pairs_le 2 16 l l1 (fun x hx => by have := b1 x hx; omega)
  have s2' := sum_pairs l
  rw [mask2, show 2 ^ 2 = 4 by rfl, ← u1, show 2 ^ (2 * 2) = 16 by rfl] at t2
  have u2 : s2 (s1 n) = ofD 16 (pairs l) := t2
  have m2 : s2 (s1 n) ≤ 7378697629483820646 := by
    unfold s2
    have a1 : s1 n / 4 &&& 3689348814741910323 ≤ 3689348814741910323 := Nat.and_le_right
    have a2 : s1 n &&& 3689348814741910323 ≤ 3689348814741910323 := Nat.and_le_right
    omega
  generalize pairs l = l at *
  have t3 := fold2 4 4 (by decide) 8 l l2 (fun x hx => by have := b2 x hx; omega)
  have l3 := pairs_len 8 l l2
  have b3 := pairs_le 4 8 l l2 (fun x hx => by have := b2 x hx; omega)
  have s3' := sum_pairs l
  rw [mask4, show 2 ^ 4 = 16 by rfl, ← u2, show 2 ^ (2 * 4) = 256 by rfl] at t3
  have u3 : s3 (s2 (s1 n)) = ofD 256 (pairs l) := t3
  generalize pairs l = l at *
  have he := eight l l3 (fun x hx => by have := b3 x hx; omega)
  rw [← u3] at he
  refine ⟨m1, ?_, he.1, he.2.1, he.2.2.1, he.2.2.2.1, ?_⟩
  · exact m2
  · rw [he.2.2.2.2, hs]; omega
/-- .. bit by bit. -/
theorem pc_succ (f n : Nat) : (bitsL (f + 1) n).sum = n % 2 + (bitsL f (n / 2)).sum := rfl
theorem bits_add : ∀ (k f n : Nat), (bitsL (k + f) n).sum = (bitsL k n).sum + (bitsL f (n / 2 ^ k)).sum
  | 0, f, n => by simp [bitsL]
  | k + 1, f, n => by
    rw [show k + 1 + f = (k + f) + 1 by omega, pc_succ, bits_add k f (n / 2), pc_succ, Nat.div_div_eq_div_mul, show 2 * 2 ^ k = 2 ^ (k + 1) by rw [Nat.pow_succ]; omega]; omega
theorem bits_zero : ∀ f, (bitsL f 0).sum = 0
  | 0 => rfl
  | f + 1 => by rw [pc_succ, bits_zero f]
theorem bits_tri : ∀ (f a b c : Nat), (bitsL f (a ^^^ b)).sum ≤ (bitsL f (a ^^^ c)).sum + (bitsL f (c ^^^ b)).sum
  | 0, _, _, _ => Nat.zero_le _
  | f + 1, a, b, c => by
    have ih := bits_tri f (a / 2) (b / 2) (c / 2)
    have h2 : ∀ x y : Nat, (x ^^^ y) % 2 = (x % 2 + y % 2) % 2 := fun x y => by
      have := Nat.xor_mod_two_pow (a := x) (b := y) (n := 1)
      rw [Nat.pow_one] at this
      rw [this]
      rcases Nat.mod_two_eq_zero_or_one x with h | h <;> rcases Nat.mod_two_eq_zero_or_one y with h' | h' <;> rw [h, h'] <;> rfl
    have h3 : ∀ x y : Nat, (x ^^^ y) / 2 = x / 2 ^^^ y / 2 := fun x y => by
      have := Nat.xor_div_two_pow (a := x) (b := y) (n := 1)
      rwa [Nat.pow_one] at this
    rw [pc_succ, pc_succ, pc_succ, h3, h3, h3, h2, h2, h2]
    omega
theorem pc_tri (a b c : Nat) : pc (a ^^^ b) ≤ pc (a ^^^ c) + pc (c ^^^ b) := bits_tri 64 a b c
theorem pc_self (a : Nat) : pc (a ^^^ a) = 0 := by rw [Nat.xor_self]; exact bits_zero 64
theorem pc_comm (a b : Nat) : pc (a ^^^ b) = pc (b ^^^ a) := by rw [Nat.xor_comm]
theorem bits_le : ∀ f n, (bitsL f n).sum ≤ f
  | 0, _ => Nat.le_refl _
  | f + 1, n => by have := bits_le f (n / 2); rw [pc_succ]; omega
theorem pc_le (n : Nat) : pc n ≤ 64 := bits_le 64 n
end Go.Proofs.Ytofahmdjhpbecaa.Pop
