/-
  'slices.Grow' on the nil slice, 'slices.Concat' of bytes.
-/
import Derived.Test.YtnnoolemmnailaaDoorProg
import Derived.Test.YtnnoolemmnailaaDoorDigC
import Derived.Test.YtnnoolemmnailaaDoorNest
import Derived.Lib.AppendZerosOnto
import Derived.Deep.Onto
namespace Go.Proofs.YtnnoolemmnailaaDoor
open Go.RowKit
set_option linter.unusedVariables false
set_option linter.unusedSimpArgs false

def bys (l : List UInt8) : List Value := l.map fun b => .int .u8 b.toNat
theorem bys_app (a b : List UInt8) : bys (a ++ b) = bys a ++ bys b := by simp [bys]
def GrowPost (w : World) (e : Ending) (w' : World) : Prop := ∃ v, e = .returned v ∧ w'.ownsRow w.heap.size 5 1 v 0 [] ∧ Below w.heap.size w w'
set_option maxRecDepth 100000 in
set_option maxHeartbeats 1000000 in
theorem grow_nil (n : Nat) (w : World) (hn : n ≤ 30000000) : Calls Tryd.prog 135 #[.slice none 0 0, .int .i64 n] w (GrowPost w) := by
  by_cases h0 : n = 0
  · subst h0
    go_enter Tryd.func135, Tryd.ntmps135
    go_wp2
    go_ret
    exact ⟨_, rfl, World.ownsRow_nil _ _ _ _, Below.refl _ _⟩
  obtain ⟨i0, hi0, hz0, hs0, hb0⟩ : ∃ i0, Tryd.prog.info? 5 = some i0 ∧ i0.zero = some (.int .u8 0) ∧ i0.size = 1 ∧ i0.bytes = 1 := ⟨_, rfl, rfl, rfl, rfl⟩
  have hrz : ∀ ty, (Builtin.append_ #[46, 3] ty #[.slice none 0 0, .int .i64 (n : Int)]).run Tryd.prog w =
      .ok (.slice (some ⟨w.heap.size, 0, none⟩) n (grownCap w n 0 5)) (w.drew.alloc (.cells (#[] ++ Builtin.zeroCells (Value.int .u8 0).cells n ++ Builtin.zeroCells (Value.int .u8 0).cells (grownCap w n 0 5 - n)) 5)) := fun ty => by
    have h := Lib.run_append_grow_zeros w 46 3 ty 5 i0 (.int .u8 0) .i64 .i64 Tryd.underlying46 Tryd.underlying3 hi0 hz0 none 0 0 [] (run_firstCells_none w.drew i0.size 0 0 0) n (by omega) (by omega) (by omega) (by omega)
      (by rw [hb0]; omega) (by refine growslice_fits (by omega) ?_; rw [hb0]; omega)
    simpa using h
  have hGn : n ≤ grownCap w n 0 5 := grownCap_ge w _ _ _
  have hGm : grownCap w n 0 5 ≤ maxLen := grownCap_le_maxLen w n 0 5 (by unfold maxLen; omega)
  obtain ⟨G, hG⟩ : ∃ G, G = grownCap w n 0 5 := ⟨_, rfl⟩
  rw [← hG] at hrz hGn hGm
  have hsz : (#[] ++ Builtin.zeroCells (Value.int .u8 0).cells n ++ Builtin.zeroCells (Value.int .u8 0).cells (G - n)).size = G * 1 := by
    simp [Builtin.zeroCells, Value.cells]; omega
  generalize (#[] ++ Builtin.zeroCells (Value.int .u8 0).cells n ++ Builtin.zeroCells (Value.int .u8 0).cells (G - n)) = cs at *
  have HOWN := Lib.hid (World.ownsRow_made (base := w.heap.size) (size := 1) (e := 5) w.drew _ G (Nat.le_refl _) hGm hsz)
  have HBL := Lib.hid (((Below.refl w.heap.size w).drew).alloc (Nat.le_refl _) (.cells cs 5))
  have hG63 : G ≤ 9223372036854775807 := by unfold maxLen at hGm; omega
  clear hsz hG hGm hi0 hz0 hs0 hb0
  go_enter Tryd.func135, Tryd.ntmps135
  go_wp2_with (at_builtin; refine Lib.wpList_append_run _ rfl _ _ _ _ rfl _ _ rfl rfl _ _ (hrz _) ?_)
  go_ret
  exact ⟨_, rfl, HOWN.out, HBL.out⟩

/-- The bytes of all. -/
def CatPost (ls : List (List UInt8)) (w : World) (e : Ending) (w' : World) : Prop :=
  ∃ v, e = .returned v ∧ w'.ownsRow w.heap.size 5 1 v ls.flatten.length (bys ls.flatten) ∧ Below w.heap.size w w'
theorem flat_take (ls : List (List UInt8)) (k : Nat) (h : k < ls.length) : (ls.take (k + 1)).flatten = (ls.take k).flatten ++ ls[k] := by
  rw [List.take_succ_eq_append_getElem h, List.flatten_append]; simp
theorem flat_le (ls : List (List UInt8)) (k : Nat) : (ls.take k).flatten.length ≤ ls.flatten.length := by
  conv => rhs; rw [← List.take_append_drop k ls]
  rw [List.flatten_append, List.length_append]; omega
set_option maxRecDepth 100000 in
set_option maxHeartbeats 1000000 in
theorem concat_any (v : Value) (ls : List (List UInt8)) (w : World) (h : (Rp.sl (Rp.sl Rp.u8)).ok w (· < w.heap.size) [v] ls) (hm : ls.flatten.length ≤ 20000000) :
    Calls Tryd.prog 86 #[v] w (CatPost ls w) := by
  obtain ⟨A, c, rfl, hl1, hc1, _⟩ := Rp.sl_open h
  unfold maxLen at hc1
  have H := Lib.hid h
  clear h
  go_enter Tryd.func86, Tryd.ntmps86
  go_wp2
  go_loopw [3, 11] (fun vs i wr => ∃ k s : Nat, k ≤ ls.length ∧ i = .int .i64 k ∧ vs = .int .i64 s ∧ s ≤ 20000000 ∧ Hid (s = (ls.take k).flatten.length) ∧ Hid (Below w.heap.size w wr)) (fun _ i _ => ls.length - (intOf i).toNat)
  case atStart => exact ⟨0, 0, by omega, rfl, rfl, by omega, rfl, Below.refl _ _⟩
  case round =>
    obtain ⟨k, s, hk, rfl, rfl, hs9, HS, HB⟩ := hrel
    by_cases hlt : k < ls.length
    · obtain ⟨ad, u, rfl, _, hu, hc⟩ := Rp.sl_at1 rfl (Rp.below _ H.out HB.out) hlt
      obtain ⟨A3, c3, rfl, hl3, hc3, _⟩ := Rp.sl_open hu
      unfold maxLen at hc3
      have ht := flat_take ls k hlt
      have hle := flat_le ls (k + 1)
      rw [ht, List.length_append, ← HS.out] at hle
      have HT : Hid (s + ls[k].length = (ls.take (k + 1)).flatten.length) := by show _ = _; rw [ht, List.length_append, ← HS.out]
      generalize ls[k] = x at *
      clear hu ht
      go_wp2
      go_roundw
      case rel => exact ⟨k + 1, s + x.length, by omega, by go_num, by go_num, by omega, HT, HB⟩
      case measure => simp [intOf]; omega
    · obtain rfl : k = ls.length := by omega
      rw [List.take_length] at HS
      go_wp2_with fail
      refine (grow_nil s wr (by omega)).mono ?_
      rintro e w1 ⟨v1, rfl, ho1, hb1⟩
      have HO1 := Lib.hid (World.ownsRow.mono ho1 HB.out.size)
      have HB1 := Lib.hid (ext_trans HB.out hb1)
      clear ho1 hb1
      go_wp2
      go_loopw [6, 27] (fun vo i w2 => ∃ k : Nat, k ≤ ls.length ∧ i = .int .i64 k ∧ Hid (w2.ownsRow w.heap.size 5 1 vo (ls.take k).flatten.length (bys (ls.take k).flatten)) ∧ Hid (Below w.heap.size w w2)) (fun _ i _ => ls.length - (intOf i).toNat)
      case atStart => exact ⟨0, by omega, rfl, HO1.out, HB1⟩
      case round =>
        obtain ⟨k, hk, rfl, HO, HB2⟩ := hrel
        have hwsz := HB2.out.size
        by_cases hlt : k < ls.length
        · obtain ⟨ad, u, rfl, _, hu, hc⟩ := Rp.sl_at1 rfl (Rp.below _ H.out HB2.out) hlt
          obtain ⟨A3, c3, rfl, hl3, hc3, _⟩ := Rp.sl_open hu
          unfold maxLen at hc3
          have hle := flat_le ls (k + 1)
          have HT := Lib.hid (flat_take ls k hlt)
          rw [HT.out, List.length_append] at hle
          have HU := Lib.hid hu
          obtain ⟨m, hm9⟩ : ∃ m, (ls.take k).flatten.length = m := ⟨_, rfl⟩
          rw [hm9] at HO hle
          have HM := Lib.hid hm9
          clear hm9
          obtain ⟨A5, c5, rfl, hn5, hc5, hown5⟩ := own_form HO.out
          generalize ls[k] = x at *
          clear hu
          go_wp2_with (at_builtin; refine app_any rfl (R := Rp.u8) rfl (.tmp 31) (.tmp 32) 46 rfl 5 (.int .u8 0) 1 Tryd.underlying46 uint8_info rfl (by rfl) HO.out hwsz (fun b => .int .u8 b.toNat) (by rfl) HU.out u8_one (by unfold maxLen; omega) (by omega) ?_; intro A9 c9 w9 HO9 HG9 HB9 HL9)
          go_roundw
          case rel =>
            refine ⟨k + 1, by omega, by go_num, ?_, HB9.out _ HB2.out⟩
            rw [HT.out, bys_app, List.length_append, HM.out]
            exact HO9.out
          case measure => simp [intOf]; omega
        · obtain rfl : k = ls.length := by omega
          rw [List.take_length] at HO
          go_wp2
          go_ret
          exact ⟨_, rfl, HO.out, HB2.out⟩

end Go.Proofs.YtnnoolemmnailaaDoor
