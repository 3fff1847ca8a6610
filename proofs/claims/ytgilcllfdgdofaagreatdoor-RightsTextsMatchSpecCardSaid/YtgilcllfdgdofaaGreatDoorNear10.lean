/-
  'nearer' and 'Nearer' of the reference of chapter 10.
-/
import Derived.Test.YtgilcllfdgdofaaGreatDoorRef10
import Derived.Deep.RegionHeld3
namespace Go.Proofs.YtgilcllfdgdofaaGreatDoor
open Go.RowKit
set_option linter.unusedVariables false
set_option linter.unusedSimpArgs false

def isgn (x : Int) : Int := if x < 0 then -1 else if 0 < x then 1 else 0
def sgL (l : List Int) : Int := orL (l.map isgn)
theorem isgn_icmp (x y : Int) : icmp x y = isgn (x - y) := by
  unfold icmp isgn
  repeat' split
  all_goals omega
theorem isgn_scmp (a b : List UInt8) : isgn (scmp a b) = scmp a b := by
  rcases scmp_tri a b with ⟨h, _⟩ | ⟨h, _⟩ | ⟨h, _⟩ <;> rw [h] <;> rfl
theorem near_sg (a b : Rgt) : near a b = sgL [(b.pre.length : Int) - (a.pre.length : Int), b.made - a.made, none1 b - none1 a, scmp a.id b.id] := by
  unfold near sgL
  rw [List.map_cons, List.map_cons, List.map_cons, List.map_cons, List.map_nil, isgn_icmp, isgn_icmp, isgn_icmp, isgn_scmp]
theorem sgL_at {l : List Int} {k : Nat} (hk : k < l.length) (h : ∀ j, j < k → ∀ hj : j < l.length, l[j] = 0) (hn : isgn l[k] ≠ 0) : sgL l = isgn l[k] := by
  have := orL_at (l := l.map isgn) (k := k) (by simpa using hk) (fun j hj hl => by
    rw [List.getElem_map, h j hj (by simpa using hl)]; rfl) (by rw [List.getElem_map]; exact hn)
  rw [List.getElem_map] at this
  exact this
theorem sgL_neg {l : List Int} {k : Nat} (hk : k < l.length) (h : ∀ j, j < k → ∀ hj : j < l.length, l[j] = 0) (hn : l[k] < 0) : sgL l = -1 := by
  have e : isgn l[k] = -1 := if_pos hn
  rw [sgL_at hk h (by rw [e]; decide), e]
theorem sgL_pos {l : List Int} {k : Nat} (hk : k < l.length) (h : ∀ j, j < k → ∀ hj : j < l.length, l[j] = 0) (hn : 0 < l[k]) : sgL l = 1 := by
  have e : isgn l[k] = 1 := by unfold isgn; rw [if_neg (by omega), if_pos hn]
  rw [sgL_at hk h (by rw [e]; decide), e]
theorem sgL_none {l : List Int} (h : ∀ j, ∀ hj : j < l.length, l[j] = 0) : sgL l = 0 :=
  orL_none (l := l.map isgn) fun j hj => by rw [List.getElem_map, h j (by simpa using hj)]; rfl
theorem rg_made {r : Rgt} (h : rgF r = 0) : 0 ≤ r.made ∧ r.made ≤ 253402300799 := by
  unfold rgF at h
  split at h
  · omega
  · split at h
    · omega
    · unfold rgRest at h
      split at h
      · omega
      · rename_i h1
        have h1 := Bool.not_eq_false _ ▸ h1
        unfold rgRange at h1
        simp only [Bool.and_eq_true, withinB, decide_eq_true_eq] at h1
        exact h1.2.2.1
end Go.Proofs.YtgilcllfdgdofaaGreatDoor
