/-
  When somebody may see a capture: where that can change; the first moment; spans: plain facts.
-/
import Derived.Test.YtfgglpjmkahphaaGreatDoorRights
namespace Go.Proofs.YtfgglpjmkahphaaGreatDoor
open Go.RowKit
set_option linter.unusedVariables false
set_option linter.unusedSimpArgs false

/-- A moment at which it can change who may see a capture. -/
def Brk (l : List Rgt) (c : Cap) (n : Int) : Prop := ∃ r ∈ l, aboutB r c = true ∧ (n = fromI r ∨ n = r.en)
theorem rOf_same {l : List Rgt} {c : Cap} {m m' : Int} (h : ∀ r ∈ l, concB r c m = concB r c m') : ∀ k, k ≤ l.length → rOf l c m k = rOf l c m' k
  | 0, _ => rfl
  | k + 1, hk => by
    have hm := h l[k] (List.getElem_mem (by omega))
    rw [rOf, rOf, rOf_same h k (by omega), getD_at l _ (show k < l.length by omega), hm]
theorem conc_same {l : List Rgt} {c : Cap} {m m' : Int} (hle : m ≤ m') (h : ∀ n, m < n → n ≤ m' → ¬ Brk l c n) : ∀ r ∈ l, concB r c m = concB r c m' := by
  intro r hr
  unfold concB
  cases ha : aboutB r c with
  | false => rfl
  | true =>
    have h1 : fromI r ≤ m ↔ fromI r ≤ m' := ⟨fun x => by omega, fun x => by
      rcases Int.lt_or_le m (fromI r) with y | y
      · exact absurd ⟨r, hr, ha, .inl rfl⟩ (h _ y x)
      · exact y⟩
    have h2 : m < r.en ↔ m' < r.en := ⟨fun x => by
      rcases Int.lt_or_le m' r.en with y | y
      · exact y
      · exact absurd ⟨r, hr, ha, .inr rfl⟩ (h _ x y), fun x => by omega⟩
    simp [h1, h2]
theorem mayB_same {t : List Team} {l : List Rgt} {who : List UInt8} {house : Bool} {c : Cap} {m m' : Int} (hle : m ≤ m') (h : ∀ n, m < n → n ≤ m' → ¬ Brk l c n) : mayB t l who house c m = mayB t l who house c m' := by
  have e : rightIx l c m = rightIx l c m' := rOf_same (conc_same hle h) l.length (Nat.le_refl _)
  unfold mayB
  rw [e]
/-- The greatest of some numbers that are not above m. -/
theorem top_below (m : Int) : ∀ es : List Int, (∃ n ∈ es, n ≤ m) → ∃ n ∈ es, n ≤ m ∧ ∀ k ∈ es, k ≤ m → k ≤ n
  | [], h => by obtain ⟨_, h, _⟩ := h; cases h
  | x :: es, h => by
    by_cases he : ∃ n ∈ es, n ≤ m
    · obtain ⟨n, h1, h2, h3⟩ := top_below m es he
      by_cases hx : x ≤ m ∧ n < x
      · refine ⟨x, by simp, hx.1, fun k hk hkm => ?_⟩
        rcases List.mem_cons.1 hk with e | e
        · omega
        · have := h3 k e hkm; omega
      · refine ⟨n, by simp [h1], h2, fun k hk hkm => ?_⟩
        rcases List.mem_cons.1 hk with e | e
        · omega
        · exact h3 k e hkm
    · obtain ⟨n, h1, h2⟩ := h
      rcases List.mem_cons.1 h1 with e | e
      · subst e
        refine ⟨n, by simp, h2, fun k hk hkm => ?_⟩
        rcases List.mem_cons.1 hk with e | e
        · omega
        · exact absurd ⟨k, e, hkm⟩ he
      · exact absurd ⟨n, e, h2⟩ he
/-- The first moment from at on, up to M, at which p holds; -1: there is none. -/
def IsOpen (p : Int → Bool) (at_ M r : Int) : Prop := (r = -1 ∧ ∀ m, at_ ≤ m → m ≤ M → p m = false) ∨ (at_ ≤ r ∧ r ≤ M ∧ p r = true ∧ ∀ m, at_ ≤ m → m < r → p m = false)
theorem isOpen_uniq {p : Int → Bool} {at_ M r s : Int} (h0 : 0 ≤ at_) (h : IsOpen p at_ M r) (k : IsOpen p at_ M s) : r = s := by
  rcases h with ⟨h1, h2⟩ | ⟨h1, h2, h3, h4⟩
  · rcases k with ⟨k1, _⟩ | ⟨k1, k2, k3, _⟩
    · omega
    · rw [h2 s k1 k2] at k3; cases k3
  · rcases k with ⟨k1, k2⟩ | ⟨k1, k2, k3, k4⟩
    · rw [k2 r h1 h2] at h3; cases h3
    · rcases Int.lt_trichotomy r s with e | e | e
      · rw [k4 r h1 e] at h3; cases h3
      · exact e
      · rw [h4 s k1 e] at k3; cases k3
/-- p is the same from a to b, if nothing of E is in between. -/
def Steps (p : Int → Bool) (M : Int) (E : List Int) (at_ : Int) : Prop := ∀ a b, at_ ≤ a → a ≤ b → b ≤ M → (∀ n ∈ E, a < n → ¬ n ≤ b) → p a = p b
theorem open_of {p : Int → Bool} {at_ M r : Int} {E : List Int} (hs : Steps p M E at_) (hat : at_ ∈ E)
    (h : (r = -1 ∧ ∀ n ∈ E, at_ ≤ n → n ≤ M → p n = false) ∨ (at_ ≤ r ∧ r ≤ M ∧ p r = true ∧ ∀ n ∈ E, at_ ≤ n → n < r → p n = false)) : IsOpen p at_ M r := by
  have key : ∀ m, at_ ≤ m → m ≤ M → ∃ n ∈ E, at_ ≤ n ∧ n ≤ m ∧ p m = p n := by
    intro m h1 h2
    obtain ⟨n, hn, hnm, hmax⟩ := top_below m E ⟨at_, hat, h1⟩
    have h3 : at_ ≤ n := hmax at_ hat h1
    exact ⟨n, hn, h3, hnm, (hs n m h3 hnm h2 (fun k hk h4 h5 => by have := hmax k hk h5; omega)).symm⟩
  rcases h with ⟨h1, h2⟩ | ⟨h1, h2, h3, h4⟩
  · refine .inl ⟨h1, fun m hm hM => ?_⟩
    obtain ⟨n, hn, a1, a2, a3⟩ := key m hm hM
    rw [a3]; exact h2 n hn a1 (by omega)
  · refine .inr ⟨h1, h2, h3, fun m hm hM => ?_⟩
    obtain ⟨n, hn, a1, a2, a3⟩ := key m hm (by omega)
    rw [a3]; exact h4 n hn a1 (by omega)
theorem steps_of {t : List Team} {l : List Rgt} {who : List UInt8} {house : Bool} {c : Cap} {at_ M : Int} {E : List Int} (h : ∀ n, Brk l c n → at_ < n → n ≤ M → n ∈ E) : Steps (mayB t l who house c) M E at_ :=
  fun a b h1 h2 h3 h4 => mayB_same h2 (fun n h5 h6 h7 => h4 n (h n h7 (by omega) (by omega)) h5 h6)
/-! ### Spans -/
def InS (xs : List (Int × Int)) (m : Int) : Prop := ∃ x ∈ xs, x.1 ≤ m ∧ m < x.2
def Sep (xs : List (Int × Int)) : Prop := (∀ x ∈ xs, x.1 < x.2) ∧ xs.Pairwise (fun x y => x.2 < y.1)
theorem sep_tail {x : Int × Int} {xs : List (Int × Int)} (h : Sep (x :: xs)) : Sep xs := ⟨fun y hy => h.1 y (List.mem_cons_of_mem _ hy), (List.pairwise_cons.1 h.2).2⟩
theorem sep_head {x : Int × Int} {xs : List (Int × Int)} (h : Sep (x :: xs)) {m : Int} (hm : InS xs m) : x.2 < m := by
  obtain ⟨y, hy, h1, h2⟩ := hm
  have := (List.pairwise_cons.1 h.2).1 y hy
  omega
theorem sep_uniq : ∀ xs ys : List (Int × Int), Sep xs → Sep ys → (∀ m, InS xs m ↔ InS ys m) → xs = ys
  | [], [], _, _, _ => rfl
  | [], y :: ys, _, hy, h => by
    have := (h y.1).2 ⟨y, by simp, by omega, hy.1 y (by simp)⟩
    obtain ⟨_, hm, _⟩ := this; cases hm
  | x :: xs, [], hx, _, h => by
    have := (h x.1).1 ⟨x, by simp, by omega, hx.1 x (by simp)⟩
    obtain ⟨_, hm, _⟩ := this; cases hm
  | x :: xs, y :: ys, hx, hy, h => by
    have lx := hx.1 x (by simp)
    have ly := hy.1 y (by simp)
    have inx : ∀ m, InS (x :: xs) m ↔ (x.1 ≤ m ∧ m < x.2) ∨ InS xs m := fun m => by
      constructor
      · rintro ⟨z, hz, h1, h2⟩
        rcases List.mem_cons.1 hz with e | e
        · subst e; exact .inl ⟨h1, h2⟩
        · exact .inr ⟨z, e, h1, h2⟩
      · rintro (⟨h1, h2⟩ | ⟨z, hz, h1, h2⟩)
        · exact ⟨x, by simp, h1, h2⟩
        · exact ⟨z, by simp [hz], h1, h2⟩
    have iny : ∀ m, InS (y :: ys) m ↔ (y.1 ≤ m ∧ m < y.2) ∨ InS ys m := fun m => by
      constructor
      · rintro ⟨z, hz, h1, h2⟩
        rcases List.mem_cons.1 hz with e | e
        · subst e; exact .inl ⟨h1, h2⟩
        · exact .inr ⟨z, e, h1, h2⟩
      · rintro (⟨h1, h2⟩ | ⟨z, hz, h1, h2⟩)
        · exact ⟨y, by simp, h1, h2⟩
        · exact ⟨z, by simp [hz], h1, h2⟩
    have e1 : x.1 = y.1 := by
      have a := (iny x.1).1 ((h x.1).1 ((inx x.1).2 (.inl ⟨by omega, lx⟩)))
      have b := (inx y.1).1 ((h y.1).2 ((iny y.1).2 (.inl ⟨by omega, ly⟩)))
      have a' : y.1 ≤ x.1 := a.elim (fun z => z.1) (fun z => by have := sep_head hy z; omega)
      have b' : x.1 ≤ y.1 := b.elim (fun z => z.1) (fun z => by have := sep_head hx z; omega)
      omega
    have e2 : x.2 = y.2 := by
      rcases Int.lt_trichotomy x.2 y.2 with e | e | e
      · exfalso
        rcases (inx x.2).1 ((h x.2).2 ((iny x.2).2 (.inl ⟨by omega, e⟩))) with z | z
        · omega
        · have := sep_head hx z; omega
      · exact e
      · exfalso
        rcases (iny y.2).1 ((h y.2).1 ((inx y.2).2 (.inl ⟨by omega, e⟩))) with z | z
        · omega
        · have := sep_head hy z; omega
    have e3 : x = y := Prod.ext e1 e2
    subst e3
    rw [sep_uniq xs ys (sep_tail hx) (sep_tail hy) (fun m => ⟨fun hm => by
      rcases (iny m).1 ((h m).1 ((inx m).2 (.inr hm))) with z | z
      · have := sep_head hx hm; omega
      · exact z, fun hm => by
      rcases (inx m).1 ((h m).2 ((iny m).2 (.inr hm))) with z | z
      · have := sep_head hy hm; omega
      · exact z⟩)]
/-- One more part of spans: it makes the last one longer if it begins where that ends. -/
def addS (xs : List (Int × Int)) (n e : Int) : List (Int × Int) :=
  if 0 < xs.length ∧ (xs.getD (xs.length - 1) (0, 0)).2 = n then xs.set (xs.length - 1) ((xs.getD (xs.length - 1) (0, 0)).1, e) else xs ++ [(n, e)]
/-- What spans are, up to a moment. -/
structure SpOk (p : Int → Bool) (xs : List (Int × Int)) (B : Int) : Prop where
  sep : Sep xs
  low : ∀ x ∈ xs, 0 ≤ x.1
  top : ∀ x ∈ xs, x.2 ≤ B
  mem : ∀ m, InS xs m ↔ 0 ≤ m ∧ m < B ∧ p m = true
theorem spOk_nil (p : Int → Bool) : SpOk p [] 0 :=
  ⟨⟨fun x h => absurd h (by simp), List.Pairwise.nil⟩, fun x h => absurd h (by simp), fun x h => absurd h (by simp), fun m => ⟨fun h => (by obtain ⟨_, h, _⟩ := h; cases h), fun h => (by omega)⟩⟩
theorem spOk_skip {p : Int → Bool} {xs : List (Int × Int)} {n e : Int} (h : SpOk p xs n) (hne : n ≤ e) (hp : ∀ m, n ≤ m → m < e → p m = false) : SpOk p xs e :=
  ⟨h.sep, h.low, fun x hx => by have := h.top x hx; omega, fun m => by
    rw [h.mem m]
    constructor
    · rintro ⟨h1, h2, h3⟩; exact ⟨h1, by omega, h3⟩
    · rintro ⟨h1, h2, h3⟩
      refine ⟨h1, ?_, h3⟩
      rcases Int.lt_or_le m n with e | e
      · exact e
      · rw [hp m e h2] at h3; cases h3⟩
theorem spOk_add {p : Int → Bool} {xs : List (Int × Int)} {n e : Int} (h : SpOk p xs n) (h0 : 0 ≤ n) (hne : n < e) (hp : ∀ m, n ≤ m → m < e → p m = true) : SpOk p (addS xs n e) e := by
  unfold addS
  split
  · rename_i hl
    obtain ⟨hl0, hl2⟩ := hl
    obtain ⟨ys, y, rfl⟩ : ∃ ys y, xs = ys ++ [y] := ⟨xs.dropLast, xs.getLast (by intro e; rw [e] at hl0; simp at hl0), (List.dropLast_concat_getLast _).symm⟩
    have hg : (ys ++ [y]).getD ((ys ++ [y]).length - 1) (0, 0) = y := by
      rw [List.getD_eq_getElem?_getD]; simp
    rw [hg] at hl2
    rw [hg]
    have hset : (ys ++ [y]).set ((ys ++ [y]).length - 1) (y.1, e) = ys ++ [(y.1, e)] := by
      rw [show (ys ++ [y]).length - 1 = ys.length by simp, List.set_append_right _ _ (Nat.le_refl _)]; simp
    rw [hset]
    have hy := h.sep.1 y (by simp)
    have hpw := List.pairwise_append.1 h.sep.2
    refine ⟨⟨fun x hx => ?_, List.pairwise_append.2 ⟨hpw.1, by simp, fun a ha b hb => ?_⟩⟩, fun x hx => ?_, fun x hx => ?_, fun m => ?_⟩
    · rcases List.mem_append.1 hx with hx | hx
      · exact h.sep.1 x (by simp [hx])
      · rw [List.mem_singleton.1 hx]; show y.1 < e; omega
    · rw [List.mem_singleton.1 hb]
      exact hpw.2.2 a ha y (by simp)
    · rcases List.mem_append.1 hx with hx | hx
      · exact h.low x (by simp [hx])
      · rw [List.mem_singleton.1 hx]; exact h.low y (by simp)
    · rcases List.mem_append.1 hx with hx | hx
      · have := h.top x (by simp [hx]); omega
      · rw [List.mem_singleton.1 hx]; exact Int.le_refl _
    · constructor
      · rintro ⟨x, hx, h1, h2⟩
        rcases List.mem_append.1 hx with hx | hx
        · have := (h.mem m).1 ⟨x, by simp [hx], h1, h2⟩
          exact ⟨this.1, by omega, this.2.2⟩
        · rw [List.mem_singleton.1 hx] at h1 h2
          have h1' : y.1 ≤ m := h1
          have h2' : m < e := h2
          rcases Int.lt_or_le m n with q | q
          · have := (h.mem m).1 ⟨y, by simp, h1', by omega⟩
            exact ⟨this.1, h2', this.2.2⟩
          · exact ⟨by omega, h2', hp m q h2'⟩
      · rintro ⟨h1, h2, h3⟩
        rcases Int.lt_or_le m n with q | q
        · obtain ⟨x, hx, a, b⟩ := (h.mem m).2 ⟨h1, q, h3⟩
          rcases List.mem_append.1 hx with hx | hx
          · exact ⟨x, by simp [hx], a, b⟩
          · rw [List.mem_singleton.1 hx] at a b
            exact ⟨(y.1, e), by simp, a, h2⟩
        · exact ⟨(y.1, e), by simp, show y.1 ≤ m by omega, h2⟩
  · rename_i hl
    have hlast : ∀ x ∈ xs, x.2 < n := by
      intro x hx
      have htop := h.top x hx
      rcases Int.lt_or_eq_of_le htop with q | q
      · exact q
      · exfalso
        apply hl
        obtain ⟨k, hk, rfl⟩ := List.mem_iff_getElem.1 hx
        refine ⟨by omega, ?_⟩
        have hkl : k = xs.length - 1 := by
          rcases Nat.lt_or_ge k (xs.length - 1) with z | z
          · exfalso
            have h1 := List.pairwise_iff_getElem.1 h.sep.2 k (xs.length - 1) hk (by omega) z
            have h2 := h.sep.1 _ (List.getElem_mem (show xs.length - 1 < xs.length by omega))
            have h3 := h.top _ (List.getElem_mem (show xs.length - 1 < xs.length by omega))
            omega
          · omega
        subst hkl
        rw [List.getD_eq_getElem?_getD, List.getElem?_eq_getElem hk]
        exact q
    refine ⟨⟨fun x hx => ?_, List.pairwise_append.2 ⟨h.sep.2, by simp, fun a ha b hb => ?_⟩⟩, fun x hx => ?_, fun x hx => ?_, fun m => ?_⟩
    · rcases List.mem_append.1 hx with hx | hx
      · exact h.sep.1 x hx
      · rw [List.mem_singleton.1 hx]; exact hne
    · rw [List.mem_singleton.1 hb]; exact hlast a ha
    · rcases List.mem_append.1 hx with hx | hx
      · exact h.low x hx
      · rw [List.mem_singleton.1 hx]; exact h0
    · rcases List.mem_append.1 hx with hx | hx
      · have := h.top x hx; omega
      · rw [List.mem_singleton.1 hx]; exact Int.le_refl _
    · constructor
      · rintro ⟨x, hx, h1, h2⟩
        rcases List.mem_append.1 hx with hx | hx
        · have := (h.mem m).1 ⟨x, hx, h1, h2⟩
          exact ⟨this.1, by omega, this.2.2⟩
        · rw [List.mem_singleton.1 hx] at h1 h2
          have h1' : n ≤ m := h1
          have h2' : m < e := h2
          exact ⟨by omega, h2', hp m h1' h2'⟩
      · rintro ⟨h1, h2, h3⟩
        rcases Int.lt_or_le m n with q | q
        · obtain ⟨x, hx, a, b⟩ := (h.mem m).2 ⟨h1, q, h3⟩
          exact ⟨x, by simp [hx], a, b⟩
        · exact ⟨(n, e), by simp, q, h2⟩
theorem spOk_uniq {p : Int → Bool} {xs ys : List (Int × Int)} {B : Int} (h : SpOk p xs B) (k : SpOk p ys B) : xs = ys :=
  sep_uniq xs ys h.sep k.sep (fun m => (h.mem m).trans (k.mem m).symm)
end Go.Proofs.YtfgglpjmkahphaaGreatDoor
