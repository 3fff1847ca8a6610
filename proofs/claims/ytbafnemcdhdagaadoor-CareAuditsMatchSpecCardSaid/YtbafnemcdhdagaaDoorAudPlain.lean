/-
  Audits: the faults, the order, what is answered: plain facts.
-/
import Derived.Test.YtbafnemcdhdagaaDoorProg
import Derived.Test.YtbafnemcdhdagaaDoorAudDel
import Derived.Test.YtbafnemcdhdagaaDoorVCount
import Derived.Test.YtbafnemcdhdagaaDoorCopies
import Derived.Test.YtbafnemcdhdagaaDoorFirstF
import Derived.Test.YtbafnemcdhdagaaDoorName
import Derived.Test.YtbafnemcdhdagaaDoorWithin
import Derived.Test.YtbafnemcdhdagaaDoorStabP
namespace Go.Proofs.YtbafnemcdhdagaaDoor
open Go.RowKit Go.Sort
set_option linter.unusedVariables false
set_option linter.unusedSimpArgs false

def audF (l : List Aud) (i : Nat) : Int :=
  if isNm (l.getD i default).item = false then 5 else if 0 < i ∧ sle (l.getD i default).item (l.getD (i - 1) default).item = true then 8 else if withinB (l.getD i default).last (-1) 3000000 = false then 1 else 0
theorem audF_1 {l : List Aud} {i : Nat} (hi : i < l.length) (h : isNm l[i].item = false) : audF l i = 5 := by rw [audF, getD_at _ _ hi, if_pos h]
theorem audF_2 {l : List Aud} {i : Nat} (hi : i < l.length) (h : isNm l[i].item = true) (h0 : 0 < i) (h2 : sle l[i].item (l[i - 1]'(by omega)).item = true) : audF l i = 8 := by
  rw [audF, getD_at _ _ hi, if_neg (by rw [h]; decide), getD_at _ _ (show i - 1 < l.length by omega), if_pos ⟨h0, h2⟩]
theorem audF_3 {l : List Aud} {i : Nat} (hi : i < l.length) (h : isNm l[i].item = true) (h2 : ¬ (0 < i ∧ sle l[i].item (l[i - 1]'(by omega)).item = true)) (h3 : withinB l[i].last (-1) 3000000 = false) : audF l i = 1 := by
  rw [audF, getD_at _ _ hi, if_neg (by rw [h]; decide), getD_at _ _ (show i - 1 < l.length by omega), if_neg h2, if_pos h3]
theorem audF_4 {l : List Aud} {i : Nat} (hi : i < l.length) (h : isNm l[i].item = true) (h2 : ¬ (0 < i ∧ sle l[i].item (l[i - 1]'(by omega)).item = true)) (h3 : withinB l[i].last (-1) 3000000 = true) : audF l i = 0 := by
  rw [audF, getD_at _ _ hi, if_neg (by rw [h]; decide), getD_at _ _ (show i - 1 < l.length by omega), if_neg h2, if_neg (by rw [h3]; decide)]
def lateA (dy : Int) (l : List Aud) : Bool := l.any (fun x => decide (dy < x.last))
theorem lateA_snoc (dy : Int) (l : List Aud) (x : Aud) : lateA dy (l ++ [x]) = (lateA dy l || decide (dy < x.last)) := by simp [lateA]
def audFault (l : List Aud) (ev most dy : Int) : Int :=
  if 3000 < l.length then 2 else if firstF (audF l) l.length ≠ 0 then firstF (audF l) l.length else if withinB ev 1 3000000 = false ∨ withinB most 0 3000 = false ∨ withinB dy 0 3000000 = false then 1 else if lateA dy l = true then 12 else 0
theorem audFault_at {l : List Aud} {ev most dy : Int} {k : Nat} {f : Int} (h : ¬ 3000 < l.length) (hk : k < l.length) (hs : ∀ j, j < k → audF l j = 0) (hf : audF l k = f) (h0 : f ≠ 0) : audFault l ev most dy = f := by
  have := firstF_at hk hs (by rw [hf]; exact h0)
  rw [audFault, if_neg h, if_pos (by rw [this, hf]; exact h0), this, hf]
theorem audFault_1 {l : List Aud} {ev most dy : Int} (h : ¬ 3000 < l.length) (hs : ∀ j, j < l.length → audF l j = 0) (h2 : withinB ev 1 3000000 = false ∨ withinB most 0 3000 = false ∨ withinB dy 0 3000000 = false) : audFault l ev most dy = 1 := by
  rw [audFault, if_neg h, if_neg (fun e => e (firstF_ok hs)), if_pos h2]
theorem audFault_2 {l : List Aud} {ev most dy : Int} (h : ¬ 3000 < l.length) (hs : ∀ j, j < l.length → audF l j = 0) (h2 : withinB ev 1 3000000 = true) (h3 : withinB most 0 3000 = true) (h4 : withinB dy 0 3000000 = true) : audFault l ev most dy = if lateA dy l = true then 12 else 0 := by
  rw [audFault, if_neg h, if_neg (fun e => e (firstF_ok hs)), if_neg (by rw [h2, h3, h4]; decide)]
/-- The order with ties decided. -/
def ltA (ev dy : Int) (x y : Aud) : Bool := decide (cmpA x y ev dy < 0) || (!decide (cmpA y x ev dy < 0) && slt x.item y.item)
theorem cmpA_lt (x y : Aud) (ev dy : Int) : cmpA x y ev dy < 0 ↔ clsA x ev dy < clsA y ev dy ∨ (clsA x ev dy = clsA y ev dy ∧ x.last < y.last) := by
  unfold cmpA or2 icmp
  repeat' split
  all_goals omega
theorem ltOfA (ev dy : Int) (x y : Aud) : ltOf (fun x y => cmpA x y ev dy) x y = true ↔ clsA x ev dy < clsA y ev dy ∨ (clsA x ev dy = clsA y ev dy ∧ x.last < y.last) := by
  unfold ltOf
  rw [decide_eq_true_iff]
  exact cmpA_lt x y ev dy
theorem bool_false_of {a : Bool} (h : ¬ a = true) : a = false := by cases a; rfl; exact absurd rfl h
theorem swoC (ev dy : Int) : SWO (ltOf fun x y => cmpA x y ev dy) where
  irrefl x := bool_false_of fun h => by rw [ltOfA] at h; omega
  trans x y z h1 h2 := by rw [ltOfA] at *; omega
  ntrans x y z h1 h2 := bool_false_of fun h3 => by
    rw [ltOfA] at h3
    have n1 : ¬ _ := fun e => by rw [(ltOfA ev dy x y).2 e] at h1; cases h1
    have n2 : ¬ _ := fun e => by rw [(ltOfA ev dy y z).2 e] at h2; cases h2
    omega
theorem ltA_iff (ev dy : Int) (x y : Aud) : ltA ev dy x y = true ↔ clsA x ev dy < clsA y ev dy ∨ (clsA x ev dy = clsA y ev dy ∧ (x.last < y.last ∨ (x.last = y.last ∧ slt x.item y.item = true))) := by
  unfold ltA
  rw [Bool.or_eq_true, Bool.and_eq_true, Bool.not_eq_true', decide_eq_true_iff, decide_eq_false_iff_not, cmpA_lt, cmpA_lt]
  by_cases hs : slt x.item y.item = true
  · simp only [hs, and_true]; omega
  · simp only [hs, and_false, or_false]; simp
theorem ltA_not {ev dy : Int} {x y : Aud} (h : ltA ev dy x y = false) : ¬ (clsA x ev dy < clsA y ev dy ∨ (clsA x ev dy = clsA y ev dy ∧ (x.last < y.last ∨ (x.last = y.last ∧ slt x.item y.item = true)))) := fun e => by
  rw [(ltA_iff ev dy x y).2 e] at h; cases h
theorem slt_tri (a b : List UInt8) : slt a b = true ∨ a = b ∨ slt b a = true := by
  rcases scmp_cases a b with ⟨_, h, _⟩ | ⟨_, _, _, h⟩ | ⟨_, _, h, _⟩
  · exact .inl h
  · exact .inr (.inl h)
  · exact .inr (.inr h)
theorem swoA (ev dy : Int) : SWO (ltA ev dy) where
  irrefl x := bool_false_of fun h => by
    rw [ltA_iff] at h
    rcases h with h | ⟨_, h | ⟨_, h⟩⟩
    · omega
    · omega
    · have := bl_irr x.item; unfold slt at h; rw [this] at h; cases h
  trans x y z h1 h2 := by
    rw [ltA_iff] at *
    rcases h1 with h1 | ⟨e1, h1 | ⟨f1, h1⟩⟩ <;> rcases h2 with h2 | ⟨e2, h2 | ⟨f2, h2⟩⟩
    all_goals first | omega | exact .inr ⟨by omega, .inr ⟨by omega, bl_trans h1 h2⟩⟩
  ntrans x y z h1 h2 := bool_false_of fun h3 => by
    rw [ltA_iff] at h3
    have n1 := ltA_not h1
    have n2 := ltA_not h2
    have m1 : ¬ clsA x ev dy < clsA y ev dy := fun h => n1 (.inl h)
    have m2 : ¬ (clsA x ev dy = clsA y ev dy ∧ x.last < y.last) := fun h => n1 (.inr ⟨h.1, .inl h.2⟩)
    have m3 : ¬ clsA y ev dy < clsA z ev dy := fun h => n2 (.inl h)
    have m4 : ¬ (clsA y ev dy = clsA z ev dy ∧ y.last < z.last) := fun h => n2 (.inr ⟨h.1, .inl h.2⟩)
    rcases h3 with h3 | ⟨e3, h3 | ⟨f3, h3⟩⟩
    · omega
    · omega
    · have k1 : clsA x ev dy = clsA y ev dy := by omega
      have k2 : x.last = y.last := by omega
      have k3 : clsA y ev dy = clsA z ev dy := by omega
      have k4 : y.last = z.last := by omega
      have p1 : ¬ slt x.item y.item = true := fun h => n1 (.inr ⟨k1, .inr ⟨k2, h⟩⟩)
      have p2 : ¬ slt y.item z.item = true := fun h => n2 (.inr ⟨k3, .inr ⟨k4, h⟩⟩)
      rcases slt_tri x.item y.item with h | h | h
      · exact p1 h
      · rw [h] at h3; exact p2 h3
      · exact p2 (bl_trans h h3)
/-- A list in a strict order is the only one of its kind. -/
theorem perm_unique {α : Type} {r : α → α → Prop} (has : ∀ a b, r a b → ¬ r b a) : ∀ {a b : List α}, a.Perm b → a.Pairwise r → b.Pairwise r → a = b
  | [], b, h, _, _ => List.Perm.nil_eq h
  | x :: a, [], h, _, _ => absurd h.length_eq (by simp)
  | x :: a, y :: b, h, ha, hb => by
    have h1 := List.pairwise_cons.1 ha
    have h2 := List.pairwise_cons.1 hb
    have hxy : x = y := by
      have hx : x ∈ y :: b := h.mem_iff.1 (by simp)
      have hy : y ∈ x :: a := h.mem_iff.2 (by simp)
      rcases List.mem_cons.1 hx with e | hx
      · exact e
      · rcases List.mem_cons.1 hy with e | hy
        · exact e.symm
        · exact absurd (h2.1 x hx) (has _ _ (h1.1 y hy))
    subst hxy
    rw [perm_unique has (List.Perm.cons_inv h) h1.2 h2.2]
/-- What is due, in its order. -/
def DueA (ev dy : Int) (l out : List Aud) : Prop := out.Perm (keepA ev dy l) ∧ out.Pairwise (fun x y => ltA ev dy x y = true)
theorem due_unique {ev dy : Int} {l a b : List Aud} (ha : DueA ev dy l a) (hb : DueA ev dy l b) : a = b := by
  refine perm_unique (fun x y h k => ?_) (ha.1.trans hb.1.symm) ha.2 hb.2
  have := (swoA ev dy).trans _ _ _ h k
  rw [(swoA ev dy).irrefl] at this
  cases this
theorem auds_sorted {l : List Aud} (hs : ∀ j, j < l.length → audF l j = 0) : l.Pairwise (fun a b => slt a.item b.item = true) := by
  refine pairwise_of_next (fun a b : Aud => slt a.item b.item = true) (fun _ _ _ h k => bl_trans h k) fun i hi => ?_
  have hf := hs (i + 1) hi
  unfold audF at hf
  rw [getD_at _ _ hi, Nat.add_sub_cancel, getD_at _ _ (show i < l.length by omega)] at hf
  split at hf
  · omega
  · split at hf
    · omega
    · rename_i hn
      have h2 : ¬ sle l[i + 1].item l[i].item = true := fun e => hn ⟨by omega, e⟩
      unfold sle at h2
      rcases scmp_cases l[i].item l[i + 1].item with ⟨_, h, _⟩ | ⟨_, _, _, h⟩ | ⟨_, _, h, _⟩
      · exact h
      · rw [h] at h2; simp at h2
      · rw [h] at h2; simp at h2
theorem auds_last {l : List Aud} (hs : ∀ j, j < l.length → audF l j = 0) : ∀ x ∈ l, -1 ≤ x.last ∧ x.last ≤ 3000000 ∧ x.item.length ≤ 40 := by
  intro x hx
  obtain ⟨i, hi, rfl⟩ := List.mem_iff_getElem.1 hx
  have hf := hs i hi
  unfold audF at hf
  rw [getD_at _ _ hi] at hf
  split at hf
  · omega
  · rename_i h1
    split at hf
    · omega
    · split at hf
      · omega
      · rename_i h3
        have h4 : withinB l[i].last (-1) 3000000 = true := by cases h : withinB l[i].last (-1) 3000000 with | true => rfl | false => exact absurd h h3
        have h5 : isNm l[i].item = true := by cases h : isNm l[i].item with | true => rfl | false => exact absurd h h1
        have h6 := of_decide_eq_true h4
        exact ⟨h6.1, h6.2, (nm_len h5).2⟩
/-- What the stable sort of those that are due asks. -/
theorem due_key {ev dy : Int} {l : List Aud} (hl : l.Pairwise (fun a b => slt a.item b.item = true)) : ∀ p q, p < q → q < (keepA ev dy l).toArray.size → ltA ev dy (keepA ev dy l).toArray[q]! (keepA ev dy l).toArray[p]! = decide (cmpA (keepA ev dy l).toArray[q]! (keepA ev dy l).toArray[p]! ev dy < 0) := by
  intro p q hpq hq
  have hk : (keepA ev dy l).Pairwise (fun a b => slt a.item b.item = true) := List.Pairwise.filter _ hl
  rw [List.size_toArray] at hq
  rw [getElem!_pos _ q (by simpa using hq), getElem!_pos _ p (by simp; omega)]
  simp only [List.getElem_toArray]
  have hlt := (List.pairwise_iff_getElem.1 hk) p q (by omega) hq hpq
  have hno : slt (keepA ev dy l)[q].item (keepA ev dy l)[p].item = false := bool_false_of fun h => by
    have := bl_trans hlt h
    rw [bl_irr] at this
    cases this
  unfold ltA
  rw [hno, Bool.and_false, Bool.or_false]
theorem due_of_sorted {ev dy : Int} {l : List Aud} {d' : Array Aud} (hl : l.Pairwise (fun a b => slt a.item b.item = true)) (hp : PermIn 0 (keepA ev dy l).toArray.size (keepA ev dy l).toArray d') (hs : SortedIn (ltA ev dy) 0 (keepA ev dy l).toArray.size d') : DueA ev dy l d'.toList := by
  have hsz : d'.size = (keepA ev dy l).length := by rw [hp.1]; simp
  have hpm : d'.toList.Perm (keepA ev dy l) := by
    have h := hp.2.2
    have e1 : (d'.extract 0 (keepA ev dy l).toArray.size).toList = d'.toList := by rw [Array.extract_eq_self_of_le (by simp [hsz])]
    have e2 : ((keepA ev dy l).toArray.extract 0 (keepA ev dy l).toArray.size).toList = keepA ev dy l := by rw [Array.extract_eq_self_of_le (Nat.le_refl _)]
    rwa [e1, e2] at h
  refine ⟨hpm, ?_⟩
  rw [List.pairwise_iff_getElem]
  intro i j hi hj hij
  have hi' : i < d'.size := by simpa using hi
  have hj' : j < d'.size := by simpa using hj
  have h1 := hs i j (Nat.zero_le _) hij (by simp; omega)
  rw [getElem!_pos d' i hi', getElem!_pos d' j hj'] at h1
  simp only [Array.getElem_toList]
  have hk : (keepA ev dy l).Pairwise (fun a b => slt a.item b.item = true) := List.Pairwise.filter _ hl
  have hnd : d'.toList.Pairwise (fun a b => a.item ≠ b.item) := by
    refine (hpm.pairwise_iff (fun h => (fun e => h e.symm))).2 (hk.imp fun h => bl_ne h)
  have hne := (List.pairwise_iff_getElem.1 hnd) i j hi hj hij
  simp only [Array.getElem_toList] at hne
  cases h2 : ltA ev dy d'[i] d'[j] with
  | true => rfl
  | false =>
    exfalso
    have n1 := ltA_not h1
    have n2 := ltA_not h2
    have m1 : ¬ clsA d'[j] ev dy < clsA d'[i] ev dy := fun h => n1 (.inl h)
    have m2 : ¬ (clsA d'[j] ev dy = clsA d'[i] ev dy ∧ d'[j].last < d'[i].last) := fun h => n1 (.inr ⟨h.1, .inl h.2⟩)
    have m3 : ¬ clsA d'[i] ev dy < clsA d'[j] ev dy := fun h => n2 (.inl h)
    have m4 : ¬ (clsA d'[i] ev dy = clsA d'[j] ev dy ∧ d'[i].last < d'[j].last) := fun h => n2 (.inr ⟨h.1, .inl h.2⟩)
    have k1 : clsA d'[i] ev dy = clsA d'[j] ev dy := by omega
    have k2 : d'[i].last = d'[j].last := by omega
    rcases slt_tri d'[i].item d'[j].item with h | h | h
    · exact n2 (.inr ⟨k1, .inr ⟨k2, h⟩⟩)
    · exact hne h
    · exact n1 (.inr ⟨k1.symm, .inr ⟨k2.symm, h⟩⟩)
/-- The items of the first ones. -/
def audOut (most : Int) (out : List Aud) : List ByteArray := (out.take most.toNat).map (fun x => bstr x.item)
end Go.Proofs.YtbafnemcdhdagaaDoor
