/-
  Copies: the order of them ('compareHeld' of package care), 'strings.Compare', 'cmp.Or' of two numbers.
-/
import Derived.Test.YtnkdcmibafjplaaGreatDoorProg
import Derived.Test.YtnkdcmibafjplaaGreatDoorRows11
import Derived.Shelf.Small.Strs
import Derived.Deep.RegionHeld3
namespace Go.Proofs.YtnkdcmibafjplaaGreatDoor
open Go.RowKit
set_option linter.unusedVariables false
set_option linter.unusedSimpArgs false

def cmpLays_ren : Go.Shelf.Ren := ⟨fun | 106 => 46 | 213 => 79 | 265 => 123 | n => n, fun | 3 => 3 | 9 => 9 | n => n, fun | n => n⟩
theorem cmpLays : Lays.n106 Tryz.prog cmpLays_ren := {
  mixed := by kernel_rfl,
  f106 := Tryz.func46.trans (congrArg some (by kernel_rfl)),
  f213 := Tryz.func79.trans (congrArg some (by kernel_rfl)),
  f265 := Tryz.func123.trans (congrArg some (by kernel_rfl)),
  t3 := Tryz.underlying3,
  a3 := Tryz.isAgg3,
  z3 := Tryz.sizeOf3,
  v3 := Tryz.zeroValue3,
  t9 := Tryz.underlying9,
  a9 := Tryz.isAgg9,
  z9 := Tryz.sizeOf9,
  v9 := Tryz.zeroValue9 }
def scmp (a b : List UInt8) : Int := Lib.compareBytes a b
theorem strCmp_any (a b : List UInt8) (w : World) : Calls Tryz.prog 46 #[.string (bstr a), .string (bstr b)] w fun e w' => e = .returned (.int .i64 (scmp a b)) ∧ w' = w :=
  Any.strings_Compare cmpLays (bstr a) (bstr b) w
def or2 (x y : Int) : Int := if x = 0 then y else x
set_option maxRecDepth 100000 in
set_option maxHeartbeats 400000 in
theorem or2_any (g : Nat) (x y : Int) (w : World) (h0 : w.cell? ⟨g, 0, none⟩ = some (.int .i64 x)) (h1 : w.cell? ⟨g, 1, none⟩ = some (.int .i64 y)) :
    Calls Tryz.prog 70 #[.slice (some ⟨g, 0, none⟩) 2 2] w fun e w' => e = .returned (.int .i64 (or2 x y)) ∧ w' = w := by
  by_cases hx : x = 0
  · have b0 : (x != 0) = false := by simp [hx]
    have HF : Hid (or2 x y = y) := Lib.hid (if_pos hx)
    by_cases hy : y = 0
    · have b1 : (y != 0) = false := by simp [hy]
      have HY := Lib.hid hy
      clear hx hy
      go_enter Tryz.func70, Tryz.ntmps70
      go_wp2
      go_loop [8] (fun i => i = .int .i64 0 ∨ i = .int .i64 1 ∨ i = .int .i64 2) (fun i => 2 - (intOf i).toNat)
      case atStart => exact .inl rfl
      case round =>
        rcases hrel with rfl | rfl | rfl
        · go_wp2
          go_round
          case rel => exact .inr (.inl rfl)
          case measure => simp [intOf]
        · go_wp2
          go_round
          case rel => exact .inr (.inr rfl)
          case measure => simp [intOf]
        · go_wp2
          go_ret
          exact ⟨by rw [HF.out, HY.out]; rfl, rfl⟩
    · have b1 : (y != 0) = true := by simpa using hy
      clear hx hy
      go_enter Tryz.func70, Tryz.ntmps70
      go_wp2
      go_loop [8] (fun i => i = .int .i64 0 ∨ i = .int .i64 1) (fun i => 2 - (intOf i).toNat)
      case atStart => exact .inl rfl
      case round =>
        rcases hrel with rfl | rfl
        · go_wp2
          go_round
          case rel => exact .inr rfl
          case measure => simp [intOf]
        · go_wp2
          go_ret
          exact ⟨by rw [HF.out]; rfl, rfl⟩
  · have b0 : (x != 0) = true := by simpa using hx
    have HF : Hid (or2 x y = x) := Lib.hid (if_neg hx)
    clear hx
    go_enter Tryz.func70, Tryz.ntmps70
    go_wp2
    go_loop [8] (fun i => i = .int .i64 0) (fun i => 2 - (intOf i).toNat)
    case atStart => exact rfl
    case round =>
      subst hrel
      go_wp2
      go_ret
      exact ⟨by rw [HF.out]; rfl, rfl⟩

structure Held where
  item : List UInt8
  site : List UInt8
  digest : List UInt8
deriving Inhabited
def heldRp : Rp Held := (Rp.pair Rp.str (Rp.pair Rp.str Rp.str)).via fun r => (bstr r.item, bstr r.site, bstr r.digest)
theorem held_open {w : World} {S : Nat → Prop} {us : List Value} {c : Held} (h : heldRp.ok w S us c) : us = [.string (bstr c.item), .string (bstr c.site), .string (bstr c.digest)] ∧ c.item.length ≤ maxLen ∧ c.site.length ≤ maxLen ∧ c.digest.length ≤ maxLen := by
  obtain ⟨_, _, rfl, ⟨rfl, h1⟩, ⟨_, _, rfl, ⟨rfl, h2⟩, ⟨rfl, h3⟩⟩⟩ := h
  exact ⟨rfl, h1, h2, h3⟩
def heldCells (a : Held) : List Value := [.string (bstr a.item), .string (bstr a.site), .string (bstr a.digest)]
def heldCmp (a b : Held) : Int := or2 (scmp a.item b.item) (scmp a.site b.site)
theorem cell_drew1 {w : World} {a : Addr} {v : Value} (h : w.cell? a = some v) : w.drew.cell? a = some v := h
theorem cell_alloc1 {w : World} {a : Addr} {v : Value} (o : Obj) (h : w.cell? a = some v) : (w.alloc o).cell? a = some v := by
  have hlt := World.block_lt_of_cell? w _ h
  exact ((Below.refl w.heap.size w).alloc (Nat.le_refl _) o).cell hlt |>.trans h
theorem lit2_0 {w : World} {x y : Value} {t : TypeId} {g : Nat} (hg : g = w.heap.size) : (w.alloc (.cells #[x, y] t)).cell? ⟨g, 0, none⟩ = some x := by
  subst hg; exact (Blk.new w t [x, y]).cell 0
theorem lit2_1 {w : World} {x y : Value} {t : TypeId} {g : Nat} (hg : g = w.heap.size) : (w.alloc (.cells #[x, y] t)).cell? ⟨g, 1, none⟩ = some y := by
  subst hg; exact (Blk.new w t [x, y]).cell 1
set_option maxRecDepth 100000 in
set_option maxHeartbeats 2000000 in
theorem compareHeld_any (a b : Held) (w : World) :
    Calls Tryz.prog 41 #[.agg (heldCells a).toArray, .agg (heldCells b).toArray] w fun e w' => e = .returned (.int .i64 (heldCmp a b)) ∧ Below w.heap.size w w' := by
  have hka := (Blk.new w 54 (heldCells a)).same (same_below ((Below.refl (w.alloc (.cells (heldCells a).toArray 54)).heap.size _).alloc (Nat.le_refl _) (.cells (heldCells b).toArray 54))) (by simp)
  have hkb := Blk.new (w.alloc (.cells (heldCells a).toArray 54)) 54 (heldCells b)
  have a0 : _ = some (Value.string (bstr a.item)) := hka.cell 0
  have a1 : _ = some (Value.string (bstr a.site)) := hka.cell 1
  have b0 : _ = some (Value.string (bstr b.item)) := hkb.cell 0
  have b1 : _ = some (Value.string (bstr b.site)) := hkb.cell 1
  have HB := Lib.hid (((Below.refl w.heap.size w).alloc (Nat.le_refl _) (.cells (heldCells a).toArray 54)).alloc (by simp) (.cells (heldCells b).toArray 54))
  unfold heldCells at *
  rw [World.size_alloc] at b0 b1
  clear hka hkb
  go_enter Tryz.func41, Tryz.ntmps41
  go_wp2_with fail
  generalize ((w.alloc (.cells #[.string (bstr a.item), .string (bstr a.site), .string (bstr a.digest)] 54)).alloc (.cells #[.string (bstr b.item), .string (bstr b.site), .string (bstr b.digest)] 54)) = wc at *
  go_region_held3 (fun w' => (w'.cell? ⟨w.heap.size, 0, none⟩ = some (.string (bstr a.item)) ∧ w'.cell? ⟨w.heap.size, 1, none⟩ = some (.string (bstr a.site))) ∧ (w'.cell? ⟨w.heap.size + 1, 0, none⟩ = some (.string (bstr b.item)) ∧ w'.cell? ⟨w.heap.size + 1, 1, none⟩ = some (.string (bstr b.site)))) (first | exact ⟨⟨a0, a1⟩, b0, b1⟩ | (refine ⟨⟨?_, ?_⟩, ?_, ?_⟩ <;> repeat' (first | (with_reducible exact a0) | (with_reducible exact a1) | (with_reducible exact b0) | (with_reducible exact b1) | (with_reducible refine cell_alloc1 _ ?_) | (with_reducible refine cell_drew1 ?_)))) (first
    | (go_at_call 46; refine (strCmp_any _ _ _).mono ?_; rintro e w1 ⟨rfl, rfl⟩)
    | (go_at_call 70; with_reducible refine (or2_any _ _ _ _ (by repeat' (first | (with_reducible refine cell_drew1 ?_) | (with_reducible exact lit2_0 rfl) | (refine lit2_0 ?_; simp))) (by repeat' (first | (with_reducible refine cell_drew1 ?_) | (with_reducible exact lit2_1 rfl) | (refine lit2_1 ?_; simp)))).mono ?_; rintro e w1 ⟨rfl, rfl⟩))
  all_goals
    go_wp2
    go_ret
    refine ⟨rfl, ?_⟩
    repeat' (first | (with_reducible exact HB.out) | (with_reducible refine Below.drew ?_) | (with_reducible refine Below.alloc ?_ ?_ _) | (have := HB.out.size; simp; omega))
end Go.Proofs.YtnkdcmibafjplaaGreatDoor
