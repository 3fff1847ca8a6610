/-
  What was shown: how it reads; 'CheckShown' of package rights and of the reference of chapter 10.
-/
import Derived.Test.YtdljgjlkfihjdaaGreatDoorConc
import Derived.Test.YtdljgjlkfihjdaaGreatDoorFirstF
namespace Go.Proofs.YtdljgjlkfihjdaaGreatDoor
open Go.RowKit
set_option linter.unusedVariables false
set_option linter.unusedSimpArgs false

structure Shn where
  at_ : Int
  who : List UInt8
  house : Bool
  key : List UInt8
  time : Int
deriving Inhabited
def shnCells (x : Shn) : List Value := [.int .i64 x.at_, .string (bstr x.who), .bool x.house, .string (bstr x.key), .int .i64 x.time]
def shnRp : Rp Shn := (Rp.pair (Rp.int .i64) (Rp.pair Rp.str (Rp.pair Rp.bool (Rp.pair Rp.str (Rp.int .i64))))).via fun r => (r.at_, bstr r.who, r.house, bstr r.key, r.time)
theorem shn_open {w : World} {S : Nat → Prop} {us : List Value} {c : Shn} (h : shnRp.ok w S us c) : us = shnCells c ∧ (Lit.int .i64 c.at_).wf = true ∧ c.who.length ≤ maxLen ∧ c.key.length ≤ maxLen ∧ (Lit.int .i64 c.time).wf = true := by
  obtain ⟨_, _, rfl, ⟨rfl, h1⟩, ⟨_, _, rfl, ⟨rfl, h2⟩, ⟨_, _, rfl, h3, ⟨_, _, rfl, ⟨rfl, h4⟩, ⟨rfl, h5⟩⟩⟩⟩⟩ := h
  cases h3
  exact ⟨rfl, h1, h2, h4, h5⟩
def ShnOk (c : Shn) : Prop := (Lit.int .i64 c.at_).wf = true ∧ c.who.length ≤ maxLen ∧ c.key.length ≤ maxLen ∧ (Lit.int .i64 c.time).wf = true
theorem shn_mk {w : World} {S : Nat → Prop} {c : Shn} (h : ShnOk c) : shnRp.ok w S (shnCells c) c :=
  ⟨[_], [_, _, _, _], rfl, ⟨rfl, h.1⟩, ⟨[_], [_, _, _], rfl, ⟨rfl, h.2.1⟩, ⟨[_], [_, _], rfl, rfl, ⟨[_], [_], rfl, ⟨rfl, h.2.2.1⟩, ⟨rfl, h.2.2.2⟩⟩⟩⟩⟩
theorem shn_at {w : World} {S : Nat → Prop} {v : Value} {l : List Shn} (h : (Rp.sl shnRp).ok w S [v] l) {k : Nat} (hk : k < l.length) :
    ∃ ad c, v = .slice (some ad) l.length c ∧ S ad.block ∧ w.cell? (ad.add (k * 5)) = some (.int .i64 l[k].at_) ∧ w.cell? ⟨(ad.add (k * 5)).block, (ad.add (k * 5)).off + 1, none⟩ = some (.string (bstr l[k].who)) ∧ w.cell? ⟨(ad.add (k * 5)).block, (ad.add (k * 5)).off + 2, none⟩ = some (.bool l[k].house) ∧ w.cell? ⟨(ad.add (k * 5)).block, (ad.add (k * 5)).off + 3, none⟩ = some (.string (bstr l[k].key)) ∧ w.cell? ⟨(ad.add (k * 5)).block, (ad.add (k * 5)).off + 4, none⟩ = some (.int .i64 l[k].time) ∧ ShnOk l[k] := by
  obtain ⟨A, c, rfl, _⟩ := Rp.sl_open h
  obtain ⟨ad, us, rfl, _, hb, hu, hcell⟩ := Rp.sl_at h hk
  obtain ⟨rfl, hz⟩ := shn_open hu
  have c0 := hcell 0 _ rfl
  have c1 := hcell 1 _ rfl
  have c2 := hcell 2 _ rfl
  have c3 := hcell 3 _ rfl
  have c4 := hcell 4 _ rfl
  rw [add_fld _ _ _ (by omega)] at c1 c2 c3 c4
  exact ⟨ad, c, rfl, hb, c0, c1, c2, c3, c4, hz⟩
/-- The fault of one that was shown, by itself. -/
def shn1F (x : Shn) : Int := if withinB x.at_ 0 253402300799 = false then 1 else if x.who ≠ [] ∧ isNm x.who = false then 5 else if capF ⟨x.key, x.time⟩ ≠ 0 then capF ⟨x.key, x.time⟩ else if x.at_ < x.time then 1 else 0
def shnF (l : List Shn) (i : Nat) : Int := if shn1F (l.getD i default) ≠ 0 then shn1F (l.getD i default) else if 0 < i ∧ (l.getD i default).at_ < (l.getD (i - 1) default).at_ then 8 else 0
def shownFault (l : List Shn) : Int := if 3000 < l.length then 2 else firstF (shnF l) l.length
section
variable {l : List Shn} {i : Nat}
theorem shnF_1 (hi : i < l.length) (h : shn1F l[i] ≠ 0) : shnF l i = shn1F l[i] := by rw [shnF, getD_at _ _ hi, if_pos h]
theorem shnF_2 (hi : i < l.length) (h : shn1F l[i] = 0) (h0 : 0 < i) (h1 : l[i].at_ < (l[i - 1]'(by omega)).at_) : shnF l i = 8 := by
  rw [shnF, getD_at _ _ hi, getD_at _ _ (show i - 1 < l.length by omega), if_neg (by rw [h]; decide), if_pos ⟨h0, h1⟩]
theorem shnF_3 (hi : i < l.length) (h : shn1F l[i] = 0) (h0 : ¬ (0 < i ∧ l[i].at_ < (l[i - 1]'(by omega)).at_)) : shnF l i = 0 := by
  rw [shnF, getD_at _ _ hi, getD_at _ _ (show i - 1 < l.length by omega), if_neg (by rw [h]; decide), if_neg h0]
theorem shownFault_at (h3 : ¬ 3000 < l.length) (hi : i < l.length) (hS : ∀ j, j < i → shnF l j = 0) {f : Int} (hf : shnF l i = f) (hn : f ≠ 0) : shownFault l = f := by
  rw [shownFault, if_neg h3, firstF_at hi hS (by rw [hf]; exact hn), hf]
theorem shownFault_ok (h3 : ¬ 3000 < l.length) (hS : ∀ j, j < l.length → shnF l j = 0) : shownFault l = 0 := by
  rw [shownFault, if_neg h3, firstF_ok hS]
end
theorem hNameB_any (t : List UInt8) (w : World) (ht : t.length ≤ 9223372036854775807) :
    Calls Tryz.prog 54 #[.string (bstr t)] w fun e w' => e = .returned (.bool (isNm t)) ∧ Below w.heap.size w w' :=
  (hName_any t w ht).mono fun e w' ⟨h1, h2⟩ => ⟨h1, by rw [h2]; exact Below.refl _ _⟩
end Go.Proofs.YtdljgjlkfihjdaaGreatDoor
