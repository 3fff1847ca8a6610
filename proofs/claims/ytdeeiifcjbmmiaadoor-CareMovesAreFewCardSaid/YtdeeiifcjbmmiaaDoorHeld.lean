/-
  Copies: the order of them ('compareHeld' of package care), 'strings.Compare', 'cmp.Or' of two numbers.
-/
import Derived.Test.YtdeeiifcjbmmiaaDoorProg
import Derived.Test.YtdeeiifcjbmmiaaDoorRows11
import Derived.Shelf.Small.Strs
import Derived.Deep.RegionHeld3
namespace Go.Proofs.YtdeeiifcjbmmiaaDoor
open Go.RowKit
set_option linter.unusedVariables false
set_option linter.unusedSimpArgs false

def scmp (a b : List UInt8) : Int := Lib.compareBytes a b
def or2 (x y : Int) : Int := if x = 0 then y else x
structure Held where
  item : List UInt8
  site : List UInt8
  digest : List UInt8
deriving Inhabited
def heldRp : Rp Held := (Rp.pair Rp.str (Rp.pair Rp.str Rp.str)).via fun r => (bstr r.item, bstr r.site, bstr r.digest)
theorem held_open {w : World} {S : Nat → Prop} {us : List Value} {c : Held} (h : heldRp.ok w S us c) : us = [.string (bstr c.item), .string (bstr c.site), .string (bstr c.digest)] ∧ c.item.length ≤ maxLen ∧ c.site.length ≤ maxLen ∧ c.digest.length ≤ maxLen := by
  obtain ⟨_, _, rfl, ⟨rfl, h1⟩, ⟨_, _, rfl, ⟨rfl, h2⟩, ⟨rfl, h3⟩⟩⟩ := h
  exact ⟨rfl, h1, h2, h3⟩
def heldCells (a : Held) : List Value := [.string (bstr a.item), .string (bstr a.site), .string (bstr a.digest)]
def heldCmp (a b : Held) : Int := or2 (scmp a.item b.item) (scmp a.site b.site)
theorem cell_drew1 {w : World} {a : Addr} {v : Value} (h : w.cell? a = some v) : w.drew.cell? a = some v := h
theorem cell_alloc1 {w : World} {a : Addr} {v : Value} (o : Obj) (h : w.cell? a = some v) : (w.alloc o).cell? a = some v := by
  have hlt := World.block_lt_of_cell? w _ h
  exact ((Below.refl w.heap.size w).alloc (Nat.le_refl _) o).cell hlt |>.trans h
theorem lit2_0 {w : World} {x y : Value} {t : TypeId} {g : Nat} (hg : g = w.heap.size) : (w.alloc (.cells #[x, y] t)).cell? ⟨g, 0, none⟩ = some x := by
  subst hg; exact (Blk.new w t [x, y]).cell 0
theorem lit2_1 {w : World} {x y : Value} {t : TypeId} {g : Nat} (hg : g = w.heap.size) : (w.alloc (.cells #[x, y] t)).cell? ⟨g, 1, none⟩ = some y := by
  subst hg; exact (Blk.new w t [x, y]).cell 1
end Go.Proofs.YtdeeiifcjbmmiaaDoor
