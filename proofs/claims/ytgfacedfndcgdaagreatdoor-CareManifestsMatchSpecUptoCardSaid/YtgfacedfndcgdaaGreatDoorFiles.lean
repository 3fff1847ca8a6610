/-
  'checkFiles' of care.
-/
import Derived.Test.YtgfacedfndcgdaaGreatDoorProg
import Derived.Test.YtgfacedfndcgdaaGreatDoorSplit
import Derived.Test.YtgfacedfndcgdaaGreatDoorFirstF
import Derived.Test.YtgfacedfndcgdaaGreatDoorRows11
import Derived.Deep.QuietTactic
import Derived.BigQuiet
namespace Go.Proofs.YtgfacedfndcgdaaGreatDoor
open Go.RowKit
set_option linter.unusedVariables false
set_option linter.unusedSimpArgs false

structure FileR where
  path : List UInt8
  bytes : List UInt8
deriving Inhabited
def fileRp : Rp FileR := (Rp.pair Rp.str (Rp.sl Rp.u8)).via fun r => (bstr r.path, r.bytes)
theorem file_open {w : World} {S : Nat → Prop} {us : List Value} {c : FileR} (h : fileRp.ok w S us c) : ∃ v, us = [.string (bstr c.path), v] ∧ c.path.length ≤ maxLen ∧ (Rp.sl Rp.u8).ok w S [v] c.bytes := by
  obtain ⟨_, _, rfl, ⟨rfl, h1⟩, h2⟩ := h
  obtain ⟨v, rfl⟩ := List.length_eq_one_iff.1 ((Rp.sl Rp.u8).len h2)
  exact ⟨v, rfl, h1, h2⟩
theorem file_at {w : World} {S : Nat → Prop} {v : Value} {l : List FileR} (h : (Rp.sl fileRp).ok w S [v] l) {k : Nat} (hk : k < l.length) :
    ∃ ad c v1, v = .slice (some ad) l.length c ∧ S ad.block ∧ w.cell? (ad.add (k * 2)) = some (.string (bstr l[k].path)) ∧ w.cell? ⟨(ad.add (k * 2)).block, (ad.add (k * 2)).off + 1, none⟩ = some v1 ∧ l[k].path.length ≤ 9223372036854775807 ∧ (Rp.sl Rp.u8).ok w S [v1] l[k].bytes := by
  obtain ⟨A, c, rfl, _⟩ := Rp.sl_open h
  obtain ⟨ad, us, rfl, _, hb, hu, hcell⟩ := Rp.sl_at h hk
  obtain ⟨v1, rfl, hz1, hv⟩ := file_open hu
  have c0 := hcell 0 _ rfl
  have c1 := hcell 1 _ rfl
  rw [add_fld _ _ _ (by omega)] at c1
  unfold maxLen at hz1
  exact ⟨ad, c, v1, rfl, hb, c0, c1, by omega, hv⟩
def fileF (l : List FileR) (i : Nat) : Int :=
  if isPathB (l.getD i default).path = false then 3 else if 100000 < (l.getD i default).bytes.length then 2
  else if 0 < i ∧ sle (l.getD i default).path (l.getD (i - 1) default).path = true then 8 else 0
def filesFault (l : List FileR) : Int := if 500 < l.length then 2 else firstF (fileF l) l.length
theorem fileF_1 {l : List FileR} {i : Nat} (hi : i < l.length) (h : isPathB l[i].path = false) : fileF l i = 3 := by
  rw [fileF, getD_at _ _ hi, if_pos h]
theorem fileF_2 {l : List FileR} {i : Nat} (hi : i < l.length) (h : isPathB l[i].path = true) (h2 : 100000 < l[i].bytes.length) : fileF l i = 2 := by
  rw [fileF, getD_at _ _ hi, if_neg (by rw [h]; decide), if_pos h2]
theorem fileF_3 {l : List FileR} {i : Nat} (hi : i < l.length) (h : isPathB l[i].path = true) (h2 : ¬ 100000 < l[i].bytes.length) (h3 : 0 < i) (h4 : sle l[i].path (l[i - 1]'(by omega)).path = true) : fileF l i = 8 := by
  rw [fileF, getD_at _ _ hi, getD_at _ _ (show i - 1 < l.length by omega), if_neg (by rw [h]; decide), if_neg h2, if_pos ⟨h3, h4⟩]
theorem fileF_4 {l : List FileR} {i : Nat} (hi : i < l.length) (h : isPathB l[i].path = true) (h2 : ¬ 100000 < l[i].bytes.length) (h3 : ¬ (0 < i ∧ sle l[i].path (l[i - 1]'(by omega)).path = true)) : fileF l i = 0 := by
  rw [fileF, getD_at _ _ hi, getD_at _ _ (show i - 1 < l.length by omega), if_neg (by rw [h]; decide), if_neg h2, if_neg h3]
theorem filesFault_at {l : List FileR} {i : Nat} (h3 : ¬ 500 < l.length) (hi : i < l.length) (hS : ∀ j, j < i → fileF l j = 0) {f : Int} (hf : fileF l i = f) (h0 : f ≠ 0) : filesFault l = f := by
  rw [filesFault, if_neg h3, firstF_at hi hS (by rw [hf]; exact h0), hf]
theorem filesFault_ok {l : List FileR} (h3 : ¬ 500 < l.length) (hS : ∀ j, j < l.length → fileF l j = 0) : filesFault l = 0 := by
  rw [filesFault, if_neg h3, firstF_ok hS]
end Go.Proofs.YtgfacedfndcgdaaGreatDoor
