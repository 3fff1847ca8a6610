/-
  SameNumbers of the reference walked; how a row of groups reads.
-/
import Derived.Test.YtnkdcmibafjplaaGreatDoorClusF
import Derived.Test.YtnkdcmibafjplaaGreatDoorEq
import Derived.Deep.QuietTactic
import Derived.BigQuiet
namespace Go.Proofs.YtnkdcmibafjplaaGreatDoor
open Go.RowKit
set_option linter.unusedVariables false
set_option linter.unusedSimpArgs false

def toI (g : List Nat) : List Int := g.map fun k : Nat => (k : Int)
theorem toI_inj : ∀ {a b : List Nat}, toI a = toI b → a = b
  | [], [], _ => rfl
  | [], y :: b, h => by simp [toI] at h
  | x :: a, [], h => by simp [toI] at h
  | x :: a, y :: b, h => by
    simp only [toI, List.map_cons, List.cons.injEq] at h
    rw [toI_inj (a := a) (b := b) h.2, show x = y by omega]
def natRp : Rp (List Nat) := (Rp.sl (Rp.int .i64)).via toI
theorem nat_read {w : World} {B : Nat} {v : Value} {l : List (List Nat)} (h : Nest1 (fun g : List Nat => g.map natV) 35 3 B w v l) (hs : ∀ g ∈ l, ∀ k ∈ g, k ≤ 1000) : (Rp.sl natRp).ok w (· < w.heap.size) [v] l := by
  refine Nest.rp (R := natRp) (fun _ => rfl) rfl h (fun g _ hg => hg) (fun a ha u hu => ?_)
  show (Rp.sl (Rp.int .i64)).ok w (· < w.heap.size) [u] (toI a)
  have e : a.map natV = (toI a).map (.int .i64) := by unfold toI; rw [List.map_map]; rfl
  have hl : (a.map natV).length = (toI a).length := by unfold toI; rw [List.length_map, List.length_map]
  simp only [hl] at hu
  rw [e] at hu
  exact Rp.int_own (k := .i64) (n := (toI a).length) (B := B) (e := 3) hu (fun x hx => by
    unfold toI at hx
    obtain ⟨k, hk, rfl⟩ := List.mem_map.1 hx
    have := hs a ha k hk
    exact WalkArith.wf_i64 (by omega)) (fun g hg => (hu.lt g hg).2)
theorem take_eqN {α : Type} {a b : List α} {k : Nat} (h : a.take k = b.take k) (ha : k < a.length) (hb : k < b.length) (he : a[k] = b[k]) : a.take (k + 1) = b.take (k + 1) := by
  rw [List.take_succ_eq_append_getElem ha, List.take_succ_eq_append_getElem hb, h, he]
end Go.Proofs.YtnkdcmibafjplaaGreatDoor
