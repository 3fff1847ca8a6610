/-
  slices.Contains of numbers; who is under whom: 'below' of the reference of chapter 10.
-/
import Derived.Test.YtgilcllfdgdofaaGreatDoorUnder
namespace Go.Proofs.YtgilcllfdgdofaaGreatDoor
open Go.RowKit
set_option linter.unusedVariables false
set_option linter.unusedSimpArgs false

def ivals (xs : List Nat) : List Value := (ints xs).map (.int .i64)
theorem ivals_app (xs : List Nat) (k : Nat) : ivals (xs ++ [k]) = ivals xs ++ [.int .i64 (k : Int)] := by unfold ivals; rw [ints_app, List.map_append]; rfl
theorem mem_ints {x : Nat} {xs : List Nat} : (x : Int) ∈ ints xs ↔ x ∈ xs := by
  unfold ints
  rw [List.mem_map]
  constructor
  · rintro ⟨y, hy, e⟩; have : y = x := by omega
    subst this; exact hy
  · exact fun h => ⟨x, h, rfl⟩
/-- What the reference's search keeps: the numbers ys that were found are those that cur marks. -/
structure BeSt (l : List Team) (fr B : Nat) (w0 : World) (cur : List Bool) (ys todo : List Nat) (vo vq : Value) (w : World) : Prop where
  own : w.ownsRow B 3 1 vo ys.length (ivals ys)
  mem : ∀ x, x ∈ ys ↔ cur.getD x false = true
  cnt : ys.length + cur.count false = l.length
  que : ∃ g1, Que w 3 B g1 vq (ints todo) ∧ (∀ go, vo.ownBlock = some go → go ≠ g1) ∧ g1 < w.heap.size
  meas : 2 * cur.count false + todo.length ≤ 2 * l.length + 1
  bel : Below B w0 w
section
variable {l : List Team} {fr B : Nat} {w0 : World} {cur : List Bool} {ys todo : List Nat} {vo vq : Value} {w w' : World}
theorem BeSt.below (h : BeSt l fr B w0 cur ys todo vo vq w) (hb : Below w.heap.size w w') (hB : B ≤ w.heap.size) : BeSt l fr B w0 cur ys todo vo vq w' := by
  obtain ⟨g1, hq, hne, hlt⟩ := h.que
  exact ⟨own_below h.own hb, h.mem, h.cnt, ⟨g1, hq.same (hb.block g1 hlt), hne, by have := hb.size; omega⟩, h.meas, h.bel.trans (hb.mono hB)⟩
theorem BeSt.qlen (h : BeSt l fr B w0 cur ys todo vo vq w) : ∃ ao cq, vq = .slice ao todo.length cq := by
  obtain ⟨gq, hq, _⟩ := h.que
  obtain ⟨ao, cq, h⟩ := hq.len
  rw [ints_len] at h
  exact ⟨ao, cq, h⟩
theorem BeSt.olen (h : BeSt l fr B w0 cur ys todo vo vq w) : ∃ ao c, vo = .slice ao ys.length c ∧ ys.length ≤ c ∧ c ≤ maxLen := by
  obtain ⟨A, c, e, h1, h2, _⟩ := own_form h.own
  exact ⟨A, c, e, h1, h2⟩
theorem BeSt.read (h : BeSt l fr B w0 cur ys todo vo vq w) (hn : l.length ≤ 100) (hc : cur.length = l.length) : (Rp.sl (Rp.int .i64)).ok w (· < w.heap.size) [vo] (ints ys) :=
  Rp.int_own h.own (fun x hx => by
    unfold ints at hx
    obtain ⟨y, hy, rfl⟩ := List.mem_map.1 hx
    have h1 := (h.mem y).1 hy
    have h2 : y < cur.length := by
      rcases Nat.lt_or_ge y cur.length with h | h
      · exact h
      · rw [List.getD_eq_getElem?_getD, List.getElem?_eq_none h] at h1; cases h1
    simp [Lit.wf, IntKind.min, IntKind.max, IntKind.signed, IntKind.bits]
    omega) (fun g hg => (h.own.lt g hg).2)
end
def BelowPost (l : List Team) (fr : Nat) (w : World) (e : Ending) (w' : World) : Prop :=
  ∃ (v : Value) (ys : List Nat), e = .returned v ∧ w'.ownsRow w.heap.size 3 1 v ys.length (ivals ys) ∧ ys.length ≤ l.length ∧ (∀ j, j ∈ ys ↔ Reach l fr j) ∧ Below w.heap.size w w'
end Go.Proofs.YtgilcllfdgdofaaGreatDoor
