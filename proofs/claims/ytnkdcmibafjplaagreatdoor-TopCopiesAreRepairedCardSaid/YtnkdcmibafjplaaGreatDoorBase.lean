/-
  Words for data in memory, over any program: how a Go value reads as a Lean value ('Rp'), how readings are kept, how a row that the call owns grows. No condition.
-/
import Derived.WalkKit
import Derived.ProofKit
import Derived.WalkSpells
import Derived.WalkLawsBesides
import Derived.Maps.AppendAt
import Derived.SizedLaws
import Derived.JoinedCond
import Derived.Deep.CondSized
import Derived.Deep.Slices
import Derived.Deep.Draws
import Derived.BigQuiet
import Derived.Deep.QuietTactic
import Derived.Deep.LoopGhost
import Derived.Deep.RegionLaw
import Derived.StillTailTactics
import Derived.Deep.DeepMust
import Derived.OpenShut
import Derived.Lib.Hide
namespace Go.Proofs.YtnkdcmibafjplaaGreatDoor
open Go.RowKit Go.ChangeShapes Go.WideShapes Go.ChangeAt

theorem add_block (a : Addr) (n : Nat) : (a.add n).block = a.block := by unfold Addr.add; split <;> rfl
theorem add_add (a : Addr) (i j : Nat) : (a.add i).add j = a.add (i + j) := by
  unfold Addr.add
  by_cases hi : i = 0 <;> by_cases hj : j = 0 <;> simp [hi, hj, Nat.add_assoc]
theorem add_nil (a : Addr) : a.add 0 = a := by simp [Addr.add]

theorem add_fld (a : Addr) (i j : Nat) (h : 0 < j) : a.add (i + j) = ⟨(a.add i).block, (a.add i).off + j, none⟩ := by
  rw [← add_add]
  conv => lhs; rw [Addr.add]
  rw [if_neg (by omega)]

/-- The blocks of S hold what they held. -/
def Same (S : Nat → Prop) (w w' : World) : Prop := ∀ k, S k → w'.heap[k]? = w.heap[k]?

theorem Same.refl (S : Nat → Prop) (w : World) : Same S w w := fun _ _ => rfl
theorem Same.trans {S : Nat → Prop} {a b c : World} (h : Same S a b) (k : Same S b c) : Same S a c := fun i hi => (k i hi).trans (h i hi)
theorem Same.sub {S T : Nat → Prop} {a b : World} (h : Same S a b) (hs : ∀ k, T k → S k) : Same T a b := fun k hk => h k (hs k hk)
theorem Same.cell {S : Nat → Prop} {w w' : World} (h : Same S w w') {a : Addr} (ha : S a.block) : w'.cell? a = w.cell? a := World.cell?_of_block (h a.block ha)
theorem same_below {B : Nat} {w w' : World} (h : Below B w w') : Same (· < B) w w' := fun k hk => h.block k hk

/-- HOW CELLS READ AS A LEAN VALUE: 'ok w S cs a': the cells cs read as a in w, all that they lead to lies in blocks of S. 'fits': no string and no slice in it is longer than 2^47. -/
structure Rp (α : Type) where
  sz : Nat
  ok : World → (Nat → Prop) → List Value → α → Prop
  fits : α → Prop
  len : ∀ {w S cs a}, ok w S cs a → cs.length = sz
  one : ∀ {w S cs a}, ok w S cs a → ∀ u ∈ cs, u.oneCell' = true
  keep : ∀ {w w' S S' cs a}, ok w S cs a → Same S w w' → (∀ k, S k → S' k) → ok w' S' cs a

theorem Rp.below {α : Type} (R : Rp α) {w w' : World} {B : Nat} {cs : List Value} {a : α} (h : R.ok w (· < B) cs a) (hb : Below B w w') : R.ok w' (· < B) cs a :=
  R.keep h (same_below hb) (fun _ h => h)
theorem Rp.sub {α : Type} (R : Rp α) {w : World} {S T : Nat → Prop} {cs : List Value} {a : α} (h : R.ok w S cs a) (hs : ∀ k, S k → T k) : R.ok w T cs a :=
  R.keep h (Same.refl _ _) hs

theorem Rp.grown {α : Type} (R : Rp α) {w w' : World} {B : Nat} {row : Option Nat} {cs : List Value} {a : α} (h : R.ok w (· < B) cs a) (hg : w.grownBy w' row) (hB : B ≤ w.heap.size) (hr : ∀ g, row = some g → B ≤ g) : R.ok w' (· < B) cs a :=
  R.below h ((Below.refl B w).grown hg hB hr)

theorem Rp.drewN {α : Type} (R : Rp α) {w : World} {S : Nat → Prop} {cs : List Value} {a : α} (h : R.ok w S cs a) (n : Nat) : R.ok (w.drewN n) S cs a := R.keep h (fun _ _ => rfl) (fun _ h => h)
theorem below_drewN {B : Nat} {w w' : World} (h : Below B w w') (n : Nat) : Below B w (w'.drewN n) := ⟨h.os, h.tape, h.output, h.size, h.block⟩
theorem own_drewN {w : World} {B : Nat} {e : TypeId} {size : Nat} {v : Value} {n : Nat} {xs : List Value} (h : w.ownsRow B e size v n xs) (k : Nat) : (w.drewN k).ownsRow B e size v n xs := h

/-- w' is w after some draws. -/
def Drawn (w w' : World) : Prop := ∃ n, w' = w.drewN n
theorem Drawn.refl (w : World) : Drawn w w := ⟨0, rfl⟩
theorem Drawn.more {w w' : World} (h : Drawn w w') (k : Nat) : Drawn w (w'.drewN k) := by obtain ⟨n, rfl⟩ := h; exact ⟨n + k, by rw [World.drewN_drewN]⟩
theorem Drawn.trans {a b c : World} (h : Drawn a b) (k : Drawn b c) : Drawn a c := by obtain ⟨n, rfl⟩ := k; exact h.more n
theorem Drawn.same {w w' : World} (h : Drawn w w') (S : Nat → Prop) : Same S w w' := by obtain ⟨n, rfl⟩ := h; exact fun _ _ => rfl
theorem Drawn.below {B : Nat} {a w w' : World} (h : Drawn w w') (hb : Below B a w) : Below B a w' := by obtain ⟨n, rfl⟩ := h; exact below_drewN hb n
theorem Drawn.size {w w' : World} (h : Drawn w w') : w'.heap.size = w.heap.size := by obtain ⟨n, rfl⟩ := h; rfl
theorem Drawn.grown {w w' : World} (h : Drawn w w') (row : Option Nat) : w.grownBy w' row := by obtain ⟨n, rfl⟩ := h; exact ⟨rfl, rfl, rfl, Nat.le_refl _, fun _ _ _ => rfl⟩
/-- A slice's length: for a loop's measure. -/
def sliceLen : Value → Nat | .slice _ n _ => n | _ => 0
theorem Drawn.own {w w' : World} (hd : Drawn w w') {B : Nat} {e : TypeId} {size : Nat} {v : Value} {n : Nat} {xs : List Value} (h : w.ownsRow B e size v n xs) : w'.ownsRow B e size v n xs := by obtain ⟨k, rfl⟩ := hd; exact h
theorem Rp.drawn {α : Type} (R : Rp α) {w w' : World} {S : Nat → Prop} {cs : List Value} {a : α} (h : R.ok w S cs a) (hd : Drawn w w') : R.ok w' S cs a := R.keep h (hd.same S) (fun _ h => h)
theorem ext_trans {a b c : World} (h : Below a.heap.size a b) (k : Below b.heap.size b c) : Below a.heap.size a c := h.trans (k.mono h.size)
theorem Rp.ext {α : Type} (R : Rp α) {w w' : World} {cs : List Value} {a : α} (h : R.ok w (· < w.heap.size) cs a) (hb : Below w.heap.size w w') : R.ok w' (· < w'.heap.size) cs a :=
  R.keep h (same_below hb) (fun _ hk => Nat.lt_of_lt_of_le hk hb.size)

def Rp.int (k : IntKind) : Rp Int where
  sz := 1
  ok := fun _ _ cs n => cs = [.int k n] ∧ (Lit.int k n).wf = true
  fits := fun _ => True
  len := by rintro _ _ _ _ ⟨rfl, _⟩; rfl
  one := by rintro _ _ _ _ ⟨rfl, _⟩ u hu; simp at hu; subst hu; rfl
  keep := fun h _ _ => h
def Rp.u8 : Rp UInt8 where
  sz := 1
  ok := fun _ _ cs b => cs = [.int .u8 b.toNat]
  fits := fun _ => True
  len := by rintro _ _ _ _ rfl; rfl
  one := by rintro _ _ _ _ rfl u hu; simp at hu; subst hu; rfl
  keep := fun h _ _ => h
def Rp.bool : Rp Bool where
  sz := 1
  ok := fun _ _ cs b => cs = [.bool b]
  fits := fun _ => True
  len := by rintro _ _ _ _ rfl; rfl
  one := by rintro _ _ _ _ rfl u hu; simp at hu; subst hu; rfl
  keep := fun h _ _ => h
def Rp.str : Rp ByteArray where
  sz := 1
  ok := fun _ _ cs s => cs = [.string s] ∧ s.size ≤ maxLen
  fits := fun s => s.size ≤ 140737488351232
  len := by rintro _ _ _ _ ⟨rfl, _⟩; rfl
  one := by rintro _ _ _ _ ⟨rfl, _⟩ u hu; simp at hu; subst hu; rfl
  keep := fun h _ _ => h
def Rp.pair {α β : Type} (R : Rp α) (T : Rp β) : Rp (α × β) where
  sz := R.sz + T.sz
  ok := fun w S cs p => ∃ c d, cs = c ++ d ∧ R.ok w S c p.1 ∧ T.ok w S d p.2
  fits := fun p => R.fits p.1 ∧ T.fits p.2
  len := by rintro _ _ _ _ ⟨c, d, rfl, h, k⟩; rw [List.length_append, R.len h, T.len k]
  one := by
    rintro _ _ _ _ ⟨c, d, rfl, h, k⟩ u hu
    rcases List.mem_append.1 hu with hu | hu
    · exact R.one h u hu
    · exact T.one k u hu
  keep := by rintro _ _ _ _ _ _ ⟨c, d, rfl, h, k⟩ hs ht; exact ⟨c, d, rfl, R.keep h hs ht, T.keep k hs ht⟩
/-- The same cells, read as another Lean type. -/
def Rp.via {α β : Type} (R : Rp α) (f : β → α) : Rp β where
  sz := R.sz
  ok := fun w S cs b => R.ok w S cs (f b)
  fits := fun b => R.fits (f b)
  len := fun h => R.len h
  one := fun h => R.one h
  keep := fun h hs ht => R.keep h hs ht
/-- A SLICE, nil too. -/
def Rp.sl {α : Type} (R : Rp α) : Rp (List α) where
  sz := 1
  ok := fun w S cs l => ∃ A c, cs = [.slice A l.length c] ∧ l.length ≤ c ∧ c ≤ maxLen ∧ (A = none → c = 0) ∧
    ∀ k (h : k < l.length), ∃ ad us, A = some ad ∧ S ad.block ∧ R.ok w S us l[k] ∧ ∀ j u, us[j]? = some u → w.cell? (ad.add (k * R.sz + j)) = some u
  fits := fun l => l.length ≤ 140737488351232 ∧ ∀ a ∈ l, R.fits a
  len := by rintro _ _ _ _ ⟨A, c, rfl, _⟩; rfl
  one := by rintro _ _ _ _ ⟨A, c, rfl, _⟩ u hu; simp at hu; subst hu; rfl
  keep := by
    rintro w w' S S' cs l ⟨A, c, rfl, h1, h2, h0, h3⟩ hs ht
    refine ⟨A, c, rfl, h1, h2, h0, fun k hk => ?_⟩
    obtain ⟨ad, us, rfl, hb, ho, hc⟩ := h3 k hk
    exact ⟨ad, us, rfl, ht _ hb, R.keep ho hs ht, fun j u hu => (hs.cell (by rw [add_block]; exact hb)).trans (hc j u hu)⟩

section
variable {α : Type} {R : Rp α} {w : World} {S : Nat → Prop} {v : Value} {l : List α}
theorem Rp.sl_open (h : (Rp.sl R).ok w S [v] l) : ∃ A c, v = .slice A l.length c ∧ l.length ≤ c ∧ c ≤ maxLen ∧ (A = none → c = 0) := by
  obtain ⟨A, c, e, h1, h2, h3, _⟩ := h
  exact ⟨A, c, by injection e, h1, h2, h3⟩
/-- An element, whatever its cells. -/
theorem Rp.sl_at {A : Option Addr} {n c : Nat} (h : (Rp.sl R).ok w S [.slice A n c] l) {k : Nat} (hk : k < l.length) :
    ∃ ad us, A = some ad ∧ n = l.length ∧ S ad.block ∧ R.ok w S us l[k] ∧ ∀ j u, us[j]? = some u → w.cell? (ad.add (k * R.sz + j)) = some u := by
  obtain ⟨A', c', e, _, _, _, h3⟩ := h
  injection e with e; injection e with e1 e2 e3
  subst e1 e2 e3
  obtain ⟨ad, us, rfl, hb, ho, hc⟩ := h3 k hk
  exact ⟨ad, us, rfl, rfl, hb, ho, hc⟩
/-- An element of one cell. -/
theorem Rp.sl_at1 (hR : R.sz = 1) {A : Option Addr} {n c : Nat} (h : (Rp.sl R).ok w S [.slice A n c] l) {k : Nat} (hk : k < l.length) :
    ∃ ad u, A = some ad ∧ S ad.block ∧ R.ok w S [u] l[k] ∧ w.cell? (ad.add k) = some u := by
  obtain ⟨ad, us, rfl, _, hb, ho, hc⟩ := Rp.sl_at h hk
  have hl := R.len ho
  rw [hR] at hl hc
  obtain ⟨u, rfl⟩ := List.length_eq_one_iff.1 hl
  exact ⟨ad, u, rfl, hb, ho, by simpa using hc 0 u rfl⟩
/-- A part 'x[lo:hi]'. -/
theorem Rp.sl_part {A : Option Addr} {n c lo hi : Nat} (h : (Rp.sl R).ok w S [.slice A n c] l) (h1 : lo ≤ hi) (h2 : hi ≤ l.length) :
    (Rp.sl R).ok w S [.slice (if c = lo then A else A.map (·.add (lo * R.sz))) (hi - lo) (c - lo)] ((l.drop lo).take (hi - lo)) := by
  obtain ⟨A', c', e, hl, hm, h0, h3⟩ := h
  injection e with e; injection e with e1 e2 e3
  subst e1 e2 e3
  have hlen : ((l.drop lo).take (hi - lo)).length = hi - lo := by rw [List.length_take, List.length_drop]; omega
  refine ⟨_, _, by rw [hlen], by omega, by omega, fun hn => ?_, fun k hk => ?_⟩
  · split at hn
    · omega
    · have := h0 (by simpa using hn); omega
  · rw [hlen] at hk
    obtain ⟨ad, us, rfl, hb, ho, hc⟩ := h3 (lo + k) (by omega)
    rw [if_neg (by omega)]
    refine ⟨ad.add (lo * R.sz), us, rfl, by rw [add_block]; exact hb, by simpa using ho, fun j u hu => ?_⟩
    rw [add_add, show lo * R.sz + (k * R.sz + j) = (lo + k) * R.sz + j by rw [Nat.add_mul]; omega]
    exact hc j u hu
/-- A part that is not empty. -/
theorem Rp.sl_cut {ad : Addr} {n c lo hi : Nat} (h : (Rp.sl R).ok w S [.slice (some ad) n c] l) (h1 : lo < hi) (h2 : hi ≤ l.length) :
    (Rp.sl R).ok w S [.slice (some (ad.add (lo * R.sz))) (hi - lo) (c - lo)] ((l.drop lo).take (hi - lo)) := by
  have h3 := Rp.sl_part h (Nat.le_of_lt h1) h2
  obtain ⟨A', c', e, hl, _⟩ := h
  injection e with e; injection e with e1 e2 e3
  rw [if_neg (by omega)] at h3
  exact h3
/-- .. of elements of one cell, n of them. -/
theorem Rp.sl_cut1 (hR : R.sz = 1) {ad : Addr} {n c lo m : Nat} (h : (Rp.sl R).ok w S [.slice (some ad) n c] l) (h1 : 0 < m) (h2 : lo + m ≤ l.length) :
    (Rp.sl R).ok w S [.slice (some (ad.add lo)) m (c - lo)] ((l.drop lo).take m) := by
  have h3 := Rp.sl_cut h (lo := lo) (hi := lo + m) (by omega) h2
  rw [hR, Nat.mul_one, Nat.add_sub_cancel_left] at h3
  exact h3
/-- 'x[lo:lo+m]' of elements of one cell. -/
theorem Rp.sl_part1 (hR : R.sz = 1) {A : Option Addr} {n c lo m : Nat} (h : (Rp.sl R).ok w S [.slice A n c] l) (h1 : lo + m ≤ l.length) :
    (Rp.sl R).ok w S [.slice (if c = lo then A else A.map (fun x => x.add lo)) m (c - lo)] ((l.drop lo).take m) := by
  have h3 := Rp.sl_part h (lo := lo) (hi := lo + m) (by omega) h1
  rw [hR, Nat.mul_one, Nat.add_sub_cancel_left] at h3
  exact h3
/-- 'x[lo:]' of elements of one cell. -/
theorem Rp.sl_drop1 (hR : R.sz = 1) {A : Option Addr} {n c lo : Nat} (h : (Rp.sl R).ok w S [.slice A n c] l) (h1 : lo ≤ l.length) :
    (Rp.sl R).ok w S [.slice (if c = lo then A else A.map (fun x => x.add lo)) (n - lo) (c - lo)] (l.drop lo) := by
  have h3 := Rp.sl_part h h1 (Nat.le_refl _)
  obtain ⟨A', c', e, _⟩ := h
  injection e with e; injection e with e1 e2 e3
  rw [hR, Nat.mul_one, List.take_of_length_le (by rw [List.length_drop]; omega)] at h3
  rw [e2]
  exact h3
theorem Rp.sl_some {A : Option Addr} {n c : Nat} (h : (Rp.sl R).ok w S [.slice A n c] l) (h0 : 0 < l.length) : ∃ ad, A = some ad ∧ ad.block < w.heap.size ∨ R.sz = 0 := by
  obtain ⟨ad, us, rfl, _, hb, ho, hc⟩ := Rp.sl_at h h0
  rcases Nat.eq_zero_or_pos R.sz with h0 | h0
  · exact ⟨ad, .inr h0⟩
  · refine ⟨ad, .inl ⟨rfl, ?_⟩⟩
    have := World.block_lt_of_cell? w _ (hc 0 (us[0]'(by rw [R.len ho]; exact h0)) (List.getElem?_eq_getElem _))
    rwa [add_block] at this
theorem Rp.sl_nil (R : Rp α) (w : World) (S : Nat → Prop) : (Rp.sl R).ok w S [.slice none 0 0] [] := ⟨none, 0, rfl, Nat.le_refl _, by unfold maxLen; omega, fun _ => rfl, fun k hk => absurd hk (by simp)⟩
end

/-- A row that is owned, of elements of whatever cells, reads as a slice. -/
theorem Rp.of_own {α : Type} {R : Rp α} (_hsz : 0 < R.sz) {w : World} {S : Nat → Prop} {B : Nat} {e : TypeId} {v : Value} {xs : List Value} {l : List α}
    (h : w.ownsRow B e R.sz v l.length xs) (hS : ∀ g, v.ownBlock = some g → S g)
    (hel : ∀ k (hk : k < l.length), R.ok w S ((xs.drop (k * R.sz)).take R.sz) l[k]) : (Rp.sl R).ok w S [v] l := by
  rcases h.2 with ⟨rfl, hn⟩ | ⟨g, cap, cur, rfl, hb, hh, hnc, hm, hcs, ht⟩
  · have : l = [] := List.eq_nil_of_length_eq_zero hn
    subst this
    exact Rp.sl_nil R w S
  · refine ⟨some ⟨g, 0, none⟩, cap, rfl, hnc, hm, by simp, fun k hk => ⟨⟨g, 0, none⟩, _, rfl, hS g rfl, hel k hk, fun j u hu => ?_⟩⟩
    refine h.cells (g := g) rfl (k * R.sz + j) u ?_
    rw [List.getElem?_take, List.getElem?_drop] at hu
    split at hu
    · exact hu
    · cases hu

/-- Elements of one cell each. -/
theorem Rp.of_own1 {α : Type} {R : Rp α} (hR : R.sz = 1) {w : World} {S : Nat → Prop} {B : Nat} {e : TypeId} {v : Value} {f : α → Value} {l : List α}
    (h : w.ownsRow B e 1 v l.length (l.map f)) (hS : ∀ g, v.ownBlock = some g → S g) (hel : ∀ a ∈ l, R.ok w S [f a] a) : (Rp.sl R).ok w S [v] l := by
  rw [← hR] at h
  refine Rp.of_own (by omega) h hS fun k hk => ?_
  rw [hR, Nat.mul_one]
  have : ((l.map f).drop k).take 1 = [f l[k]] := by
    rw [List.drop_eq_getElem_cons (by simpa using hk)]
    simp
  rw [this]
  exact hel _ (List.getElem_mem hk)

theorem flat_at {α β : Type} {f : α → List β} {sz : Nat} (hf : ∀ a, (f a).length = sz) : ∀ (l : List α) (k : Nat) (h : k < l.length), ((l.flatMap f).drop (k * sz)).take sz = f l[k]
  | a :: l, 0, _ => by
    rw [List.flatMap_cons, Nat.zero_mul, List.drop_zero, List.take_left' (hf a)]; rfl
  | a :: l, k + 1, h => by
    rw [List.flatMap_cons, Nat.add_mul, Nat.one_mul, Nat.add_comm, ← List.drop_drop, List.drop_left' (hf a), flat_at hf l k (by simpa using h)]; rfl
theorem flat_len {α β : Type} {f : α → List β} {sz : Nat} (hf : ∀ a, (f a).length = sz) : ∀ l : List α, (l.flatMap f).length = l.length * sz
  | [] => by simp
  | a :: l => by rw [List.flatMap_cons, List.length_append, hf, flat_len hf l, List.length_cons, Nat.add_mul]; omega
theorem own_len {α : Type} {f : α → List Value} {sz : Nat} (h0 : 0 < sz) (hf : ∀ a, (f a).length = sz) {w : World} {B : Nat} {e : TypeId} {v : Value} {n : Nat} {l : List α} (h : w.ownsRow B e sz v n (l.flatMap f)) : n = l.length := by
  have := h.1
  rw [flat_len hf] at this
  exact (Nat.eq_of_mul_eq_mul_right h0 this).symm
/-- Elements of several cells each. -/
theorem Rp.of_ownN {α : Type} {R : Rp α} (hsz : 0 < R.sz) {w : World} {S : Nat → Prop} {B : Nat} {e : TypeId} {v : Value} {n : Nat} {f : α → List Value} {l : List α} (hf : ∀ a, (f a).length = R.sz)
    (h : w.ownsRow B e R.sz v n (l.flatMap f)) (hS : ∀ g, v.ownBlock = some g → S g) (hel : ∀ a ∈ l, R.ok w S (f a) a) : (Rp.sl R).ok w S [v] l := by
  obtain rfl := own_len hsz hf h
  exact Rp.of_own hsz h hS fun k hk => by rw [flat_at hf l k hk]; exact hel _ (List.getElem_mem hk)

theorem Rp.u8_ok (w : World) (S : Nat → Prop) (b : UInt8) : Rp.u8.ok w S [.int .u8 b.toNat] b := rfl
theorem Rp.u8_own {w : World} {S : Nat → Prop} {B : Nat} {e : TypeId} {v : Value} {n : Nat} {l : List UInt8} (h : w.ownsRow B e 1 v n (l.map fun b => .int .u8 b.toNat)) (hS : ∀ g, v.ownBlock = some g → S g) : (Rp.sl Rp.u8).ok w S [v] l := by
  have hn : n = l.length := by have := h.1; simpa using this.symm
  subst hn
  exact Rp.of_own1 (R := Rp.u8) (f := fun b => .int .u8 b.toNat) rfl h hS (fun _ _ => rfl)
theorem Rp.int_own {w : World} {S : Nat → Prop} {B : Nat} {e : TypeId} {v : Value} {n : Nat} {k : IntKind} {l : List Int} (h : w.ownsRow B e 1 v n (l.map (.int k))) (hl : ∀ x ∈ l, (Lit.int k x).wf = true) (hS : ∀ g, v.ownBlock = some g → S g) : (Rp.sl (Rp.int k)).ok w S [v] l := by
  have hn : n = l.length := by have := h.1; simpa using this.symm
  subst hn
  exact Rp.of_own1 (R := Rp.int k) (f := .int k) rfl h hS (fun a ha => ⟨rfl, hl a ha⟩)
theorem Rp.str_own {w : World} {S : Nat → Prop} {B : Nat} {e : TypeId} {v : Value} {n : Nat} {l : List ByteArray} (h : w.ownsRow B e 1 v n (l.map .string)) (hl : ∀ x ∈ l, x.size ≤ maxLen) (hS : ∀ g, v.ownBlock = some g → S g) : (Rp.sl Rp.str).ok w S [v] l := by
  have hn : n = l.length := by have := h.1; simpa using this.symm
  subst hn
  exact Rp.of_own1 (R := Rp.str) (f := .string) rfl h hS (fun a ha => ⟨rfl, hl a ha⟩)

/-- The form of an owned value. -/
theorem own_form {w : World} {B : Nat} {e : TypeId} {size : Nat} {v : Value} {n : Nat} {xs : List Value} (h : w.ownsRow B e size v n xs) :
    ∃ A c, v = .slice A n c ∧ n ≤ c ∧ c ≤ maxLen ∧ (∀ g, v.ownBlock = some g → B ≤ g ∧ g < w.heap.size) := by
  refine (h.2.elim (fun ⟨hv, hn⟩ => ⟨none, 0, ?_⟩) fun ⟨g, cap, cur, hv, hb, hh, hnc, hm, _⟩ => ⟨some ⟨g, 0, none⟩, cap, hv, hnc, hm, ?_⟩)
  · subst hn; exact ⟨hv, Nat.le_refl _, by unfold maxLen; omega, fun g hg => by rw [hv] at hg; cases hg⟩
  · exact fun g' hg => h.lt g' hg

theorem grown_same {w w' : World} {row : Option Nat} (h : w.grownBy w' row) : Same (fun k => k < w.heap.size ∧ some k ≠ row) w w' := fun k hk => h.block k hk.1 hk.2
theorem below_lt {B : Nat} {w w' : World} (h : Below B w w') : w.heap.size ≤ w'.heap.size := h.size

section
variable {P : Program} {w : World} {ops : Array Oper} {o : Oper} {a : Act} {Q : Exit → Act → World → Prop}
/-- 'append(v, u..)' where the row u.. has been laid in a new block just ahead: elements of size cells. -/
theorem wp_app_new {K : Act → World → Prop} (s x : Operand) (t : TypeId)
    (ho : o.op = .call { callee := .builtin .append, args := #[s, x], argTypes := #[t, t] })
    (e : TypeId) (z : Value) (size bytes : Nat) (ht : P.underlying t = some (.slice e)) (hinfo : (P.info? e).map (fun i => (i.zero, i.size, i.bytes)) = some (some z, size, bytes))
    (hzs : z.cells.size = size) (hsz : 0 < size)
    {B : Nat} {v : Value} {n m : Nat} {xs : List Value} (us : List Value) (hown : w.ownsRow B e size v n xs) (hB : B ≤ w.heap.size)
    (hs : a.eval s = v) (hx : a.eval x = .slice (some ⟨w.heap.size, 0, none⟩) m m) (hl : us.length = m * size) (hm : 0 < m) (hu : ∀ u ∈ us, u.oneCell' = true)
    (hn : n + m ≤ maxLen) (hbytes : (n + m) * bytes ≤ 140737488355328)
    (h : ∀ g c w', Hid (w'.ownsRow B e size (.slice (some ⟨g, 0, none⟩) (n + m) c) (n + m) (xs ++ us)) → Hid (w.grownBy w' v.ownBlock) → Hid (∀ w0, Below B w0 w → Below B w0 w') → Hid (v.ownBlock = some g ∨ w.heap.size ≤ g) →
      K (a.put o.dst (.slice (some ⟨g, 0, none⟩) (n + m) c)) w') :
    o.wp P a (w.alloc (.cells us.toArray e)) K Q := by
  obtain ⟨i, hi, hz, h1, h2⟩ := info_parts hinfo
  have hcell : ∀ j u, us[j]? = some u → (w.alloc (.cells us.toArray e)).cell? ((⟨w.heap.size, 0, none⟩ : Addr).add j) = some u := by
    intro j u hj
    have hadd : (⟨w.heap.size, 0, none⟩ : Addr).add j = ⟨w.heap.size, j, none⟩ := by unfold Addr.add; split <;> simp_all
    rw [hadd, cell_of_row _ _ j _ e (0, 0) (heap_alloc_new w _)]
    simpa using hj
  obtain ⟨v', w', hrun, hown', hg, hnil, hat⟩ := run_append_own_at (P := P) (w.alloc (.cells us.toArray e)) B t o.type e i z size bytes ht hi hz h1 h2 hzs hsz v n xs (hown.alloc _) _ m m us hl hcell hu hn hbytes (by simp; omega)
  have hne : v' ≠ .slice none 0 0 := fun e => by have := (hnil.1 e).2; omega
  unfold Oper.wp execOp
  simp only [ho, resolve, invoke, builtin, Sem.run_bind, Sem.run_pure, Result.andThen_ok, List.map_toArray, List.map_cons, List.map_nil, hs, hx, hrun]
  rcases hown'.2 with ⟨e1, _⟩ | ⟨g, cap, cur, rfl, _⟩
  · exact absurd e1 hne
  · have hg' : w.grownBy w' v.ownBlock := ⟨hg.os, hg.tape, hg.output, by have := hg.size; simp at this; omega, fun k hk hne => (hg.block k (by simp; omega) hne).trans (Below.heap_alloc w _ k hk)⟩
    refine h g cap w' hown' hg' (fun w0 hb => hb.grown hg' hB (fun k hk => (hown.lt k hk).1)) ?_
    rcases hat with e1 | e1
    · exact .inl (by rw [← e1]; rfl)
    · right
      simp only [Value.ownBlock, Option.some.injEq, World.size_alloc] at e1
      omega
theorem app_new {rest : List Oper} (hgd : o.guard = none) (s x : Operand) (t : TypeId)
    (ho : o.op = .call { callee := .builtin .append, args := #[s, x], argTypes := #[t, t] })
    (e : TypeId) (z : Value) (size bytes : Nat) (ht : P.underlying t = some (.slice e)) (hinfo : (P.info? e).map (fun i => (i.zero, i.size, i.bytes)) = some (some z, size, bytes))
    (hzs : z.cells.size = size) (hsz : 0 < size)
    {B : Nat} {v : Value} {n m : Nat} {xs : List Value} (us : List Value) (hown : w.ownsRow B e size v n xs) (hB : B ≤ w.heap.size)
    (hs : a.eval s = v) (hx : a.eval x = .slice (some ⟨w.heap.size, 0, none⟩) m m) (hl : us.length = m * size) (hm : 0 < m) (hu : ∀ u ∈ us, u.oneCell' = true)
    (hn : n + m ≤ maxLen) (hbytes : (n + m) * bytes ≤ 140737488355328)
    (h : ∀ g c w', Hid (w'.ownsRow B e size (.slice (some ⟨g, 0, none⟩) (n + m) c) (n + m) (xs ++ us)) → Hid (w.grownBy w' v.ownBlock) → Hid (∀ w0, Below B w0 w → Below B w0 w') → Hid (v.ownBlock = some g ∨ w.heap.size ≤ g) →
      wpList P ops Q rest (a.put o.dst (.slice (some ⟨g, 0, none⟩) (n + m) c)) w') :
    wpList P ops Q (o :: rest) a (w.alloc (.cells us.toArray e)) :=
  wpList_plain hgd fun _ hK => wp_app_new s x t ho e z size bytes ht hinfo hzs hsz us hown hB hs hx hl hm hu hn hbytes fun g c w' h1 h2 h3 h4 => hK _ _ (h g c w' h1 h2 h3 h4)
/-- .. in a region that draws its order: the world W is w, the row's block, and k draws. -/
theorem step_app_new {K : Act → World → Prop} {E' : Prop} {W : World} (hgd : o.guard = none) (s x : Operand) (t : TypeId)
    (ho : o.op = .call { callee := .builtin .append, args := #[s, x], argTypes := #[t, t] })
    (e : TypeId) (z : Value) (size bytes : Nat) (ht : P.underlying t = some (.slice e)) (hinfo : (P.info? e).map (fun i => (i.zero, i.size, i.bytes)) = some (some z, size, bytes))
    (hzs : z.cells.size = size) (hsz : 0 < size)
    {B : Nat} {v : Value} {n m : Nat} {xs : List Value} (us : List Value) (k : Nat) (hW : W = (w.alloc (.cells us.toArray e)).drewN k) (hown : w.ownsRow B e size v n xs) (hB : B ≤ w.heap.size)
    (hs : a.eval s = v) (hx : a.eval x = .slice (some ⟨w.heap.size, 0, none⟩) m m) (hl : us.length = m * size) (hm : 0 < m) (hu : ∀ u ∈ us, u.oneCell' = true)
    (hn : n + m ≤ maxLen) (hbytes : (n + m) * bytes ≤ 140737488355328)
    (h : ∀ g c w', Hid (w'.ownsRow B e size (.slice (some ⟨g, 0, none⟩) (n + m) c) (n + m) (xs ++ us)) → Hid (w.grownBy w' v.ownBlock) → Hid (∀ w0, Below B w0 w → Below B w0 w') → Hid (v.ownBlock = some g ∨ w.heap.size ≤ g) →
      K (a.put o.dst (.slice (some ⟨g, 0, none⟩) (n + m) c)) w') :
    if Region.wanted o (yielded ops a.tmps) = true then Oper.wp P o a W K Q else E' := by
  have hw : Region.wanted o (yielded ops a.tmps) = true := by simp [Region.wanted, hgd]
  rw [if_pos hw]
  have hW' : W = (w.drewN k).alloc (.cells us.toArray e) := hW
  subst hW'
  exact wp_app_new (w := w.drewN k) s x t ho e z size bytes ht hinfo hzs hsz us hown hB hs hx hl hm hu hn hbytes fun g c w' h1 h2 h3 h4 =>
    h g c w' h1 ⟨h2.os, h2.tape, h2.output, h2.size, h2.block⟩ (fun w0 hb => h3 w0 (below_drewN hb k)) h4
end

/-- Bytes as a string. -/
def bstr (l : List UInt8) : ByteArray := ⟨l.toArray⟩
theorem bstr_data (l : List UInt8) : (bstr l).data.toList = l := rfl
theorem bstr_size (l : List UInt8) : (bstr l).size = l.length := rfl
theorem bstr_inj {l k : List UInt8} (h : bstr l = bstr k) : l = k := by rw [← bstr_data l, h, bstr_data]
theorem bstr_eq (s : ByteArray) : bstr s.data.toList = s := rfl

theorem bstr_toList (l : List UInt8) : (bstr l).toList = l := by rw [ByteArray.toList_eq]; rfl
theorem str_inj {s t : ByteArray} (h : s.toList = t.toList) : s = t := by
  rw [ByteArray.toList_eq, ByteArray.toList_eq] at h
  rw [← bstr_eq s, h, bstr_eq t]
theorem str_beq {s t : ByteArray} (h : s = t) : (s.toList == t.toList) = true := by rw [h]; exact beq_self_eq_true _
theorem str_bne {s t : ByteArray} (h : s ≠ t) : (s.toList == t.toList) = false := by rw [beq_eq_false_iff_ne]; exact fun e => h (str_inj e)
theorem str_dec (s t : ByteArray) : (s.toList == t.toList) = decide (s = t) := by
  by_cases h : s = t
  · rw [str_beq h, decide_eq_true h]
  · rw [str_bne h, decide_eq_false h]

/-- 'string(b)'. -/
theorem conv_bytes {P : Program} {w : World} {S : Nat → Prop} {A : Option Addr} {n c : Nat} {bs : List UInt8} (src e dst : TypeId) (hs : P.underlying src = some (.slice e)) (he : P.underlying e = some (.int .u8)) (hd : P.underlying dst = some .string)
    (h : (Rp.sl Rp.u8).ok w S [.slice A n c] bs) : (convert src dst (.slice A n c)).run P w = .ok (.string (bstr bs)) w := by
  obtain ⟨A', c', e0, _, _, h0, h3⟩ := h
  injection e0 with e0; injection e0 with e1 e2 e3
  subst e1 e2 e3
  cases A with
  | none =>
    have : bs = [] := by
      have := h0 rfl
      exact List.eq_nil_of_length_eq_zero (by omega)
    subst this
    rw [run_convert_bytes_nil w src e hs he _ _ dst hd]
    rfl
  | some ad =>
    have hl : (loadCells ad bs.length).run P w = .ok ((bs.map fun b => (b.toNat : Int)).map (Value.int .u8)).toArray w := by
      have := run_loadCells_list (P := P) w ad ((bs.map fun b => (b.toNat : Int)).map (Value.int .u8)) (fun j v hj => by
        have hjl : j < bs.length := by
          rcases Nat.lt_or_ge j bs.length with h | h
          · exact h
          · rw [List.getElem?_eq_none (by simpa using h)] at hj; cases hj
        obtain ⟨ad', us, e1, _, ho, hc⟩ := h3 j hjl
        injection e1 with e1
        subst e1
        cases ho
        have := hc 0 _ rfl
        simp only [Rp.u8, Nat.mul_one, Nat.add_zero] at this
        rw [this, ← hj]
        simp [hjl])
      simpa using this
    rw [run_convert_bytes_string w src dst e _ _ _ hs he hd, run_bytesToString w ad _ _ _ hl, foldl_push_bytes]
    simp only [bstr, List.map_map]
    congr 2
    have : (bs.map ((fun n : Int => UInt8.ofNat n.toNat) ∘ fun b => (b.toNat : Int))) = bs := by
      conv => rhs; rw [← List.map_id bs]
      refine List.map_congr_left fun b _ => ?_
      simp
    rw [this]
    simp [ByteArray.empty, ByteArray.emptyWithCapacity]
    rfl

/-- A block that is known whole. -/
def Blk (w : World) (g : Nat) (t : TypeId) (cs : List Value) : Prop := w.heap[g]? = some (.cells cs.toArray t (0, 0))
section
variable {w w' : World} {g : Nat} {t : TypeId} {cs : List Value}
theorem Blk.lt (h : Blk w g t cs) : g < w.heap.size := (Array.getElem?_eq_some_iff.1 h).1
theorem Blk.cell (h : Blk w g t cs) (i : Nat) : w.cell? ⟨g, i, none⟩ = cs[i]? := by rw [cell_of_row w g i _ t (0, 0) h]; simp
theorem Blk.frozen (h : Blk w g t cs) (i : Nat) : w.frozen? ⟨g, i, none⟩ = false := by
  unfold Blk at h
  simp only [World.frozen?, h, Bool.and_eq_false_iff, decide_eq_false_iff_not]
  omega
theorem Blk.new (w : World) (t : TypeId) (cs : List Value) : Blk (w.alloc (.cells cs.toArray t)) w.heap.size t cs := heap_alloc_new w _
theorem Blk.set_ (h : Blk w g t cs) (i : Nat) (u : Value) : Blk (w.setCell ⟨g, i, none⟩ u) g t (cs.set i u) := by
  unfold Blk at h ⊢
  simp [World.setCell, Array.getElem?_modify, h]
theorem Blk.same {S : Nat → Prop} (h : Blk w g t cs) (hs : Same S w w') (hg : S g) : Blk w' g t cs := (hs g hg).trans h
theorem Blk.ne {g' : Nat} {t' : TypeId} {cs' : List Value} (h : Blk w g t cs) (h' : Blk w g' t' cs') (hne : t ≠ t') : g ≠ g' := by
  rintro rfl
  unfold Blk at h h'
  rw [h] at h'
  injection h' with h'
  injection h' with _ ht
  exact hne ht
end

end Go.Proofs.YtnkdcmibafjplaaGreatDoor
