/-
  Where items lie: the order of sites by their scores, plainly. No condition.
-/
import Derived.Test.YtdeeiifcjbmmiaaDoorProg
import Derived.Test.YtdeeiifcjbmmiaaDoorScoreD
import Derived.Test.YtdeeiifcjbmmiaaDoorSiteAt
import Derived.Test.YtdeeiifcjbmmiaaDoorVCount
import Derived.Test.YtdeeiifcjbmmiaaDoorCopies
import Derived.Test.YtdeeiifcjbmmiaaDoorStabP
namespace Go.Proofs.YtdeeiifcjbmmiaaDoor
open Go.RowKit Go.Sort
set_option linter.unusedVariables false
set_option linter.unusedSimpArgs false

/-- A site whose name is not endless. -/
def Sb : Type := { x : Site // x.name.length ≤ 1000 }
instance : Inhabited Sb := ⟨⟨⟨[], 0, 0⟩, by decide⟩⟩
/-- A site's score. -/
def keyS (item : List UInt8) (x : Site) : Int := wrap64 (topN (x.name ++ 32 :: item) 6 * x.weight)
def icmpS (x y : Int) : Int := if x < y then -1 else if y < x then 1 else 0
def cmpS (item : List UInt8) (a b : Sb) : Int := icmpS (keyS item b.1) (keyS item a.1)
/-- The order with ties decided. -/
def ltS (item : List UInt8) (x y : Sb) : Bool := decide (keyS item y.1 < keyS item x.1) || (decide (keyS item x.1 = keyS item y.1) && slt x.1.name y.1.name)
theorem cmpS_lt (item : List UInt8) (x y : Sb) : cmpS item x y < 0 ↔ keyS item y.1 < keyS item x.1 := by
  unfold cmpS icmpS
  repeat' split
  all_goals omega
theorem ltOfS (item : List UInt8) (x y : Sb) : ltOf (cmpS item) x y = true ↔ keyS item y.1 < keyS item x.1 := by
  unfold ltOf
  rw [decide_eq_true_iff]
  exact cmpS_lt item x y
theorem bool_falseS {a : Bool} (h : ¬ a = true) : a = false := by cases a; rfl; exact absurd rfl h
theorem swoCS (item : List UInt8) : SWO (ltOf (cmpS item)) where
  irrefl x := bool_falseS fun h => by rw [ltOfS] at h; omega
  trans x y z h1 h2 := by rw [ltOfS] at *; omega
  ntrans x y z h1 h2 := bool_falseS fun h3 => by
    rw [ltOfS] at h3
    have n1 : ¬ _ := fun e => by rw [(ltOfS item x y).2 e] at h1; cases h1
    have n2 : ¬ _ := fun e => by rw [(ltOfS item y z).2 e] at h2; cases h2
    omega
theorem ltS_iff (item : List UInt8) (x y : Sb) : ltS item x y = true ↔ keyS item y.1 < keyS item x.1 ∨ (keyS item x.1 = keyS item y.1 ∧ slt x.1.name y.1.name = true) := by
  unfold ltS
  rw [Bool.or_eq_true, Bool.and_eq_true, decide_eq_true_iff, decide_eq_true_iff]
theorem ltS_not {item : List UInt8} {x y : Sb} (h : ltS item x y = false) : ¬ (keyS item y.1 < keyS item x.1 ∨ (keyS item x.1 = keyS item y.1 ∧ slt x.1.name y.1.name = true)) := fun e => by
  rw [(ltS_iff item x y).2 e] at h; cases h
theorem slt_triS (a b : List UInt8) : slt a b = true ∨ a = b ∨ slt b a = true := by
  rcases scmp_cases a b with ⟨_, h, _⟩ | ⟨_, _, _, h⟩ | ⟨_, _, h, _⟩
  · exact .inl h
  · exact .inr (.inl h)
  · exact .inr (.inr h)
theorem swoS (item : List UInt8) : SWO (ltS item) where
  irrefl x := bool_falseS fun h => by
    rw [ltS_iff] at h
    rcases h with h | ⟨_, h⟩
    · omega
    · have := bl_irr x.1.name; unfold slt at h; rw [this] at h; cases h
  trans x y z h1 h2 := by
    rw [ltS_iff] at *
    rcases h1 with h1 | ⟨e1, h1⟩ <;> rcases h2 with h2 | ⟨e2, h2⟩
    all_goals first | omega | exact .inr ⟨by omega, bl_trans h1 h2⟩
  ntrans x y z h1 h2 := bool_falseS fun h3 => by
    rw [ltS_iff] at h3
    have n1 := ltS_not h1
    have n2 := ltS_not h2
    have m1 : ¬ keyS item y.1 < keyS item x.1 := fun h => n1 (.inl h)
    have m3 : ¬ keyS item z.1 < keyS item y.1 := fun h => n2 (.inl h)
    rcases h3 with h3 | ⟨e3, h3⟩
    · omega
    · have k1 : keyS item x.1 = keyS item y.1 := by omega
      have k3 : keyS item y.1 = keyS item z.1 := by omega
      have p1 : ¬ slt x.1.name y.1.name = true := fun h => n1 (.inr ⟨k1, h⟩)
      have p2 : ¬ slt y.1.name z.1.name = true := fun h => n2 (.inr ⟨k3, h⟩)
      rcases slt_triS x.1.name y.1.name with h | h | h
      · exact p1 h
      · rw [h] at h3; exact p2 h3
      · exact p2 (bl_trans h h3)
theorem perm_uniqueS {α : Type} {r : α → α → Prop} (has : ∀ a b, r a b → ¬ r b a) : ∀ {a b : List α}, a.Perm b → a.Pairwise r → b.Pairwise r → a = b
  | [], b, h, _, _ => List.Perm.nil_eq h
  | x :: a, [], h, _, _ => absurd h.length_eq (by simp)
  | x :: a, y :: b, h, ha, hb => by
    have h1 := List.pairwise_cons.1 ha
    have h2 := List.pairwise_cons.1 hb
    have hxy : x = y := by
      have hx : x ∈ y :: b := h.mem_iff.1 (by simp)
      have hy : y ∈ x :: a := h.mem_iff.2 (by simp)
      rcases List.mem_cons.1 hx with e | hx
      · exact e
      · rcases List.mem_cons.1 hy with e | hy
        · exact e.symm
        · exact absurd (h2.1 x hx) (has _ _ (h1.1 y hy))
    subst hxy
    rw [perm_uniqueS has (List.Perm.cons_inv h) h1.2 h2.2]
/-- The sites in the order of their scores. -/
def OrdS (item : List UInt8) (l out : List Sb) : Prop := out.Perm l ∧ out.Pairwise (fun x y => ltS item x y = true)
theorem ord_unique {item : List UInt8} {l a b : List Sb} (ha : OrdS item l a) (hb : OrdS item l b) : a = b := by
  refine perm_uniqueS (fun x y h k => ?_) (ha.1.trans hb.1.symm) ha.2 hb.2
  have := (swoS item).trans _ _ _ h k
  rw [(swoS item).irrefl] at this
  cases this
/-- Names rise. -/
def RiseS (l : List Sb) : Prop := l.Pairwise (fun a b => slt a.1.name b.1.name = true)
theorem ord_key {item : List UInt8} {l : List Sb} (hl : RiseS l) : ∀ p q, p < q → q < l.toArray.size → ltS item l.toArray[q]! l.toArray[p]! = decide (cmpS item l.toArray[q]! l.toArray[p]! < 0) := by
  intro p q hpq hq
  rw [List.size_toArray] at hq
  rw [getElem!_pos _ q (by simpa using hq), getElem!_pos _ p (by simp; omega)]
  simp only [List.getElem_toArray]
  have hlt := (List.pairwise_iff_getElem.1 hl) p q (by omega) hq hpq
  have hno : slt l[q].1.name l[p].1.name = false := bool_falseS fun h => by
    have := bl_trans hlt h
    rw [bl_irr] at this
    cases this
  unfold ltS
  rw [hno, Bool.and_false, Bool.or_false]
  exact decide_eq_decide.2 (cmpS_lt item _ _).symm
theorem ord_of_sorted {item : List UInt8} {l : List Sb} {d' : Array Sb} (hl : RiseS l) (hp : PermIn 0 l.toArray.size l.toArray d') (hs : SortedIn (ltS item) 0 l.toArray.size d') : OrdS item l d'.toList := by
  have hsz : d'.size = l.length := by rw [hp.1]; simp
  have hpm : d'.toList.Perm l := by
    have h := hp.2.2
    have e1 : (d'.extract 0 l.toArray.size).toList = d'.toList := by rw [Array.extract_eq_self_of_le (by simp [hsz])]
    have e2 : (l.toArray.extract 0 l.toArray.size).toList = l := by rw [Array.extract_eq_self_of_le (Nat.le_refl _)]
    rwa [e1, e2] at h
  refine ⟨hpm, ?_⟩
  rw [List.pairwise_iff_getElem]
  intro i j hi hj hij
  have hi' : i < d'.size := by simpa using hi
  have hj' : j < d'.size := by simpa using hj
  have h1 := hs i j (Nat.zero_le _) hij (by simp; omega)
  rw [getElem!_pos d' i hi', getElem!_pos d' j hj'] at h1
  simp only [Array.getElem_toList]
  have hnd : d'.toList.Pairwise (fun a b => a.1.name ≠ b.1.name) := by
    refine (hpm.pairwise_iff (fun h => (fun e => h e.symm))).2 (hl.imp fun h => bl_ne h)
  have hne := (List.pairwise_iff_getElem.1 hnd) i j hi hj hij
  simp only [Array.getElem_toList] at hne
  cases h2 : ltS item d'[i] d'[j] with
  | true => rfl
  | false =>
    exfalso
    have n1 := ltS_not h1
    have n2 := ltS_not h2
    have m1 : ¬ keyS item d'[i].1 < keyS item d'[j].1 := fun h => n1 (.inl h)
    have m3 : ¬ keyS item d'[j].1 < keyS item d'[i].1 := fun h => n2 (.inl h)
    have k1 : keyS item d'[i].1 = keyS item d'[j].1 := by omega
    rcases slt_triS d'[i].1.name d'[j].1.name with h | h | h
    · exact n2 (.inr ⟨k1, h⟩)
    · exact hne h
    · exact n1 (.inr ⟨k1.symm, h⟩)
/-! ### The reference's way: each site put behind all whose score is not less -/
/-- The place of x: behind the last one whose score is not less. -/
def insAt (item : List UInt8) (x : Site) (l : List Sb) : Nat := (l.reverse.dropWhile (fun y => decide (keyS item y.1 < keyS item x))).length
theorem ins_parts (item : List UInt8) (x : Site) (l : List Sb) : ∃ A B, l = A ++ B ∧ A.length = insAt item x l ∧ (∀ z ∈ B, keyS item z.1 < keyS item x) ∧ (∀ a, A.getLast? = some a → ¬ keyS item a.1 < keyS item x) := by
  refine ⟨(l.reverse.dropWhile (fun y => decide (keyS item y.1 < keyS item x))).reverse, (l.reverse.takeWhile (fun y => decide (keyS item y.1 < keyS item x))).reverse, ?_, ?_, fun z hz => ?_, fun a ha => ?_⟩
  · rw [← List.reverse_append, List.takeWhile_append_dropWhile, List.reverse_reverse]
  · rw [List.length_reverse]; rfl
  · have h := List.mem_reverse.1 hz
    generalize l.reverse = m at h
    induction m with
    | nil => cases h
    | cons y m ih =>
      rw [List.takeWhile_cons] at h
      split at h
      · rename_i hy
        rcases List.mem_cons.1 h with rfl | h
        · exact of_decide_eq_true hy
        · exact ih h
      · cases h
  · rw [List.getLast?_reverse] at ha
    generalize l.reverse = m at ha
    induction m with
    | nil => cases ha
    | cons y m ih =>
      rw [List.dropWhile_cons] at ha
      split at ha
      · exact ih ha
      · rename_i hy
        cases ha
        exact fun h => hy (decide_eq_true h)
theorem insAt_le (item : List UInt8) (x : Site) (l : List Sb) : insAt item x l ≤ l.length := by
  obtain ⟨A, B, h, ha, _⟩ := ins_parts item x l
  rw [← ha, h, List.length_append]; omega
/-- What the reference's loop finds is that place. -/
theorem insAt_is {item : List UInt8} {x : Site} {l : List Sb} {k : Nat} (hk : k ≤ l.length) (h1 : ∀ j (h : j < l.length), k ≤ j → keyS item l[j].1 < keyS item x) (h2 : ∀ h : 0 < k, ¬ keyS item (l[k - 1]'(by omega)).1 < keyS item x) : insAt item x l = k := by
  obtain ⟨A, B, rfl, ha, hB, hA⟩ := ins_parts item x l
  rw [← ha]
  rw [List.length_append] at hk
  rcases Nat.lt_trichotomy A.length k with h | h | h
  · exfalso
    have hB' := hB (B[k - 1 - A.length]'(by omega)) (List.getElem_mem _)
    have h2' := h2 (by omega)
    rw [List.getElem_append_right (by omega)] at h2'
    exact h2' hB'
  · exact h
  · exfalso
    have hn : A ≠ [] := fun e => by rw [e] at h; simp at h
    have hl := hA (A.getLast hn) (List.getLast?_eq_some_getLast hn)
    have h1' := h1 (A.length - 1) (by rw [List.length_append]; omega) (by omega)
    rw [List.getElem_append_left (by omega)] at h1'
    rw [List.getLast_eq_getElem] at hl
    exact hl h1'
def insS (item : List UInt8) (l : List Sb) (x : Sb) : List Sb := l.take (insAt item x.1 l) ++ x :: l.drop (insAt item x.1 l)
def insAll (item : List UInt8) (l : List Sb) : List Sb := l.foldl (insS item) []
theorem insAll_snoc (item : List UInt8) (l : List Sb) (x : Sb) : insAll item (l ++ [x]) = insS item (insAll item l) x := by
  unfold insAll; rw [List.foldl_append]; rfl
theorem insS_ord {item : List UInt8} {l out : List Sb} {x : Sb} (h : OrdS item l out) (hx : ∀ y ∈ l, slt y.1.name x.1.name = true) : OrdS item (l ++ [x]) (insS item out x) := by
  obtain ⟨A, B, he, ha, hB, hA⟩ := ins_parts item x.1 out
  obtain ⟨hp, hs⟩ := h
  unfold insS
  rw [← ha]
  rw [he] at hp hs ⊢
  rw [List.take_left, List.drop_left]
  refine ⟨?_, ?_⟩
  · have h1 : (A ++ x :: B).Perm (x :: (A ++ B)) := List.perm_middle
    exact h1.trans ((List.Perm.cons x hp).trans (List.perm_append_singleton x l).symm)
  · rw [List.pairwise_append] at hs ⊢
    obtain ⟨s1, s2, s3⟩ := hs
    have hAx : ∀ a ∈ A, ltS item a x = true := by
      intro a hm
      have hn : A ≠ [] := fun e => by rw [e] at hm; cases hm
      have hl := hA (A.getLast hn) (List.getLast?_eq_some_getLast hn)
      have hle : keyS item (A.getLast hn).1 ≤ keyS item a.1 := by
        have hd := List.dropLast_concat_getLast hn
        by_cases hm2 : a ∈ A.dropLast
        · rw [← hd, List.pairwise_append] at s1
          have := (ltS_iff item _ _).1 (s1.2.2 a hm2 _ (List.mem_singleton.2 rfl))
          omega
        · rw [← hd] at hm
          rcases List.mem_append.1 hm with h | h
          · exact absurd h hm2
          · rw [List.mem_singleton.1 h]; exact Int.le_refl _
      rw [ltS_iff]
      by_cases hk : keyS item x.1 < keyS item a.1
      · exact .inl hk
      · exact .inr ⟨by omega, hx a (hp.mem_iff.1 (List.mem_append_left _ hm))⟩
    have hxB : ∀ b ∈ B, ltS item x b = true := fun b hb => (ltS_iff item x b).2 (.inl (hB b hb))
    refine ⟨s1, List.pairwise_cons.2 ⟨hxB, s2⟩, fun a hm b hb => ?_⟩
    rcases List.mem_cons.1 hb with rfl | hb
    · exact hAx a hm
    · exact s3 a hm b hb
theorem insAll_ord {item : List UInt8} : ∀ (l : List Sb), RiseS l → OrdS item l (insAll item l) := by
  intro l
  have key : ∀ (n : Nat), n ≤ l.length → RiseS l → OrdS item (l.take n) (insAll item (l.take n)) := by
    intro n
    induction n with
    | zero => exact fun _ _ => ⟨List.Perm.refl _, List.Pairwise.nil⟩
    | succ n ih =>
      intro hn hr
      have h1 := ih (by omega) hr
      rw [List.take_succ_eq_append_getElem (show n < l.length by omega), insAll_snoc]
      refine insS_ord h1 (fun y hy => ?_)
      obtain ⟨j, hj, rfl⟩ := List.getElem_of_mem hy
      rw [List.length_take] at hj
      rw [List.getElem_take]
      exact (List.pairwise_iff_getElem.1 hr) j n (by omega) (by omega) (by omega)
  intro hr
  have := key l.length (Nat.le_refl _) hr
  rwa [List.take_length] at this
end Go.Proofs.YtdeeiifcjbmmiaaDoor
