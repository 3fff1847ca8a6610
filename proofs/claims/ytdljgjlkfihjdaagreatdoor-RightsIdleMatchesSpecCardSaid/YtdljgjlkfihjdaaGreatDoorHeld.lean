/-
  Copies: the order of them ('compareHeld' of package care), 'strings.Compare', 'cmp.Or' of two numbers.
-/
import Derived.Test.YtdljgjlkfihjdaaGreatDoorProg
import Derived.Test.YtdljgjlkfihjdaaGreatDoorRows11
import Derived.Shelf.Small.Strs
import Derived.Deep.RegionHeld3
namespace Go.Proofs.YtdljgjlkfihjdaaGreatDoor
open Go.RowKit
set_option linter.unusedVariables false
set_option linter.unusedSimpArgs false

def cmpLays_ren : Go.Shelf.Ren := ⟨fun | 106 => 45 | 213 => 68 | 265 => 85 | n => n, fun | 3 => 3 | 9 => 9 | n => n, fun | n => n⟩
theorem cmpLays : Lays.n106 Tryz.prog cmpLays_ren := {
  mixed := by kernel_rfl,
  f106 := Tryz.func45.trans (congrArg some (by kernel_rfl)),
  f213 := Tryz.func68.trans (congrArg some (by kernel_rfl)),
  f265 := Tryz.func85.trans (congrArg some (by kernel_rfl)),
  t3 := Tryz.underlying3,
  a3 := Tryz.isAgg3,
  z3 := Tryz.sizeOf3,
  v3 := Tryz.zeroValue3,
  t9 := Tryz.underlying9,
  a9 := Tryz.isAgg9,
  z9 := Tryz.sizeOf9,
  v9 := Tryz.zeroValue9 }
def scmp (a b : List UInt8) : Int := Lib.compareBytes a b
theorem strCmp_any (a b : List UInt8) (w : World) : Calls Tryz.prog 45 #[.string (bstr a), .string (bstr b)] w fun e w' => e = .returned (.int .i64 (scmp a b)) ∧ w' = w :=
  Any.strings_Compare cmpLays (bstr a) (bstr b) w
def or2 (x y : Int) : Int := if x = 0 then y else x
set_option maxRecDepth 100000 in
set_option maxHeartbeats 400000 in
theorem or2_any (g : Nat) (x y : Int) (w : World) (h0 : w.cell? ⟨g, 0, none⟩ = some (.int .i64 x)) (h1 : w.cell? ⟨g, 1, none⟩ = some (.int .i64 y)) :
    Calls Tryz.prog 47 #[.slice (some ⟨g, 0, none⟩) 2 2] w fun e w' => e = .returned (.int .i64 (or2 x y)) ∧ w' = w := by
  by_cases hx : x = 0
  · have b0 : (x != 0) = false := by simp [hx]
    have HF : Hid (or2 x y = y) := Lib.hid (if_pos hx)
    by_cases hy : y = 0
    · have b1 : (y != 0) = false := by simp [hy]
      have HY := Lib.hid hy
      clear hx hy
      go_enter Tryz.func47, Tryz.ntmps47
      go_wp2
      go_loop [8] (fun i => i = .int .i64 0 ∨ i = .int .i64 1 ∨ i = .int .i64 2) (fun i => 2 - (intOf i).toNat)
      case atStart => exact .inl rfl
      case round =>
        rcases hrel with rfl | rfl | rfl
        · go_wp2
          go_round
          case rel => exact .inr (.inl rfl)
          case measure => simp [intOf]
        · go_wp2
          go_round
          case rel => exact .inr (.inr rfl)
          case measure => simp [intOf]
        · go_wp2
          go_ret
          exact ⟨by rw [HF.out, HY.out]; rfl, rfl⟩
    · have b1 : (y != 0) = true := by simpa using hy
      clear hx hy
      go_enter Tryz.func47, Tryz.ntmps47
      go_wp2
      go_loop [8] (fun i => i = .int .i64 0 ∨ i = .int .i64 1) (fun i => 2 - (intOf i).toNat)
      case atStart => exact .inl rfl
      case round =>
        rcases hrel with rfl | rfl
        · go_wp2
          go_round
          case rel => exact .inr rfl
          case measure => simp [intOf]
        · go_wp2
          go_ret
          exact ⟨by rw [HF.out]; rfl, rfl⟩
  · have b0 : (x != 0) = true := by simpa using hx
    have HF : Hid (or2 x y = x) := Lib.hid (if_neg hx)
    clear hx
    go_enter Tryz.func47, Tryz.ntmps47
    go_wp2
    go_loop [8] (fun i => i = .int .i64 0) (fun i => 2 - (intOf i).toNat)
    case atStart => exact rfl
    case round =>
      subst hrel
      go_wp2
      go_ret
      exact ⟨by rw [HF.out]; rfl, rfl⟩

structure Held where
  item : List UInt8
  site : List UInt8
  digest : List UInt8
deriving Inhabited
def heldRp : Rp Held := (Rp.pair Rp.str (Rp.pair Rp.str Rp.str)).via fun r => (bstr r.item, bstr r.site, bstr r.digest)
theorem held_open {w : World} {S : Nat → Prop} {us : List Value} {c : Held} (h : heldRp.ok w S us c) : us = [.string (bstr c.item), .string (bstr c.site), .string (bstr c.digest)] ∧ c.item.length ≤ maxLen ∧ c.site.length ≤ maxLen ∧ c.digest.length ≤ maxLen := by
  obtain ⟨_, _, rfl, ⟨rfl, h1⟩, ⟨_, _, rfl, ⟨rfl, h2⟩, ⟨rfl, h3⟩⟩⟩ := h
  exact ⟨rfl, h1, h2, h3⟩
def heldCells (a : Held) : List Value := [.string (bstr a.item), .string (bstr a.site), .string (bstr a.digest)]
def heldCmp (a b : Held) : Int := or2 (scmp a.item b.item) (scmp a.site b.site)
theorem cell_drew1 {w : World} {a : Addr} {v : Value} (h : w.cell? a = some v) : w.drew.cell? a = some v := h
theorem cell_alloc1 {w : World} {a : Addr} {v : Value} (o : Obj) (h : w.cell? a = some v) : (w.alloc o).cell? a = some v := by
  have hlt := World.block_lt_of_cell? w _ h
  exact ((Below.refl w.heap.size w).alloc (Nat.le_refl _) o).cell hlt |>.trans h
theorem lit2_0 {w : World} {x y : Value} {t : TypeId} {g : Nat} (hg : g = w.heap.size) : (w.alloc (.cells #[x, y] t)).cell? ⟨g, 0, none⟩ = some x := by
  subst hg; exact (Blk.new w t [x, y]).cell 0
theorem lit2_1 {w : World} {x y : Value} {t : TypeId} {g : Nat} (hg : g = w.heap.size) : (w.alloc (.cells #[x, y] t)).cell? ⟨g, 1, none⟩ = some y := by
  subst hg; exact (Blk.new w t [x, y]).cell 1
end Go.Proofs.YtdljgjlkfihjdaaGreatDoor
