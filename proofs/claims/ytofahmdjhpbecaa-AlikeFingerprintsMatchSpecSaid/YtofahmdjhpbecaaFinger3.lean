/-
  'Fingerprint' of package alike.
-/
import Derived.Test.YtofahmdjhpbecaaProg
import Derived.Test.YtofahmdjhpbecaaFinger2
namespace Go.Proofs.Ytofahmdjhpbecaa
open Go.RowKit
set_option linter.unusedVariables false
set_option linter.unusedSimpArgs false

def moreM (ws : List (List UInt8)) (k i : Nat) : List Value := (List.range 64).map fun j => .int .i64 (moreS (ws.take (if j < i then k + 1 else k)) j)
theorem moreM_len (ws : List (List UInt8)) (k i : Nat) : (moreM ws k i).length = 64 := by simp [moreM]
theorem moreM_at (ws : List (List UInt8)) (k i : Nat) (h : i < 64) : (moreM ws k i)[i]? = some (.int .i64 (moreS (ws.take k) i)) := by
  simp [moreM, h]
theorem moreM_set (ws : List (List UInt8)) (k i : Nat) (h : i < 64) : (moreM ws k i).set i (.int .i64 (moreS (ws.take (k + 1)) i)) = moreM ws k (i + 1) := by
  apply List.ext_getElem?
  intro j
  by_cases hj : j < 64
  · rw [List.getElem?_set]
    by_cases e : i = j
    · subst e
      simp [moreM, h]
    · rw [if_neg e]
      simp only [moreM, List.getElem?_map, List.getElem?_range hj, Option.map_some]
      by_cases e1 : j < i
      · rw [if_pos e1, if_pos (by omega)]
      · rw [if_neg e1, if_neg (by omega)]
  · rw [List.getElem?_eq_none (by simp [moreM]; omega), List.getElem?_eq_none (by simp [moreM]; omega)]
theorem moreM_full (ws : List (List UInt8)) (k : Nat) : moreM ws k 64 = moreM ws (k + 1) 0 := by
  unfold moreM
  refine List.map_congr_left fun j hj => ?_
  rw [if_pos (List.mem_range.1 hj), if_neg (by omega)]
theorem moreM_zero (ws : List (List UInt8)) : moreM ws 0 0 = List.replicate 64 (.int .i64 0) := by
  unfold moreM
  rw [List.eq_replicate_iff]
  refine ⟨by simp, fun b hb => ?_⟩
  obtain ⟨j, _, rfl⟩ := List.mem_map.1 hb
  simp [moreS]

theorem grown_set (w : World) (g i : Nat) (v : Value) : w.grownBy (w.setCell ⟨g, i, none⟩ v).drew (some g) :=
  ⟨rfl, rfl, rfl, by simp, fun k _ hk => heap_setCell_other w _ k v (fun e => hk (by rw [e]))⟩
theorem bit_round2 (ws : List (List UInt8)) (k j : Nat) (h : j < ws.length) (hl : ws.length ≤ 20001) :
    wrap64 (moreS (ws.take j) k + wrap64 (wrap64 (wrap64 (bits BinOp.and IntKind.u64 (fnv ws[j] / 2 ^ k) 1) * 2) - 1)) = moreS (ws.take (j + 1)) k := by
  rw [Int.mul_comm (wrap64 _) 2]; exact bit_round ws k j h hl

theorem int_size : (Try.prog.info? 3).map (·.size) = some 1 := by kernel_rfl
theorem arr_index (ws : List (List UInt8)) (j : Nat) (h : j < 64) (W : World) :
    (Instr.index 97 (.agg (moreM ws ws.length 0).toArray) (.int .i64 (j : Int))).run Try.prog W = .ok (.int .i64 (moreS ws j)) W := by
  have h1 : (moreM ws ws.length 0)[j]? = some (.int .i64 (moreS ws j)) := by simp [moreM, h]
  obtain ⟨i, hi⟩ : ∃ i, Try.prog.info? 3 = some i := by have := int_size; cases h : Try.prog.info? 3 <;> simp_all
  have hc : Try.prog.cellsOf 3 = 1 := by kernel_rfl
  have hp := run_part_plain (P := Try.prog) (w := W) (e := 3) (by kernel_rfl) (xs := (moreM ws ws.length 0).toArray) (off := j) (by rw [List.getElem?_toArray]; exact h1)
  simp [Instr.index, run_underlying Try.underlying97, asIntOf, go_sem, run_sizeOf _ hi, hc, h1, h]
set_option maxRecDepth 100000 in
set_option maxHeartbeats 4000000 in
theorem fp_good (t : List UInt8) (w : World) (ht : t.length ≤ 20000) :
    Calls Try.prog 29 #[.string (bstr t)] w fun e w' => e = .returned (.tuple #[.int .u64 (fpAt (wordsL t) 64), .int .i64 0]) ∧ Below w.heap.size w w' := by
  have hwl := wordsL_len ht
  have hr : (Rp.sl Rp.str).ok (w.alloc (.cells #[.string (bstr t)] 9)) (· < w.heap.size + 1) [.slice (some ⟨w.heap.size, 0, none⟩) 1 1] [bstr t] := by
    refine ⟨_, _, rfl, by simp, by simp [maxLen], by simp, fun k hk => ?_⟩
    obtain rfl : k = 0 := by simpa using hk
    refine ⟨_, _, rfl, by simp, ⟨rfl, by rw [List.getElem_cons_zero, bstr_size]; unfold maxLen; omega⟩, fun j u hu => ?_⟩
    match j, hu with
    | 0, hu => rw [show (0 * Rp.str.sz + 0) = 0 from rfl, add_nil]; exact (cell_of_row _ _ 0 _ _ _ (heap_alloc_new w _)).trans hu
  have hf : textsFault [bstr t] = 0 := textsFault_good (by simp [bstr_size, ht])
  have HR := Lib.hid hr
  have HF := Lib.hid hf
  clear hr hf
  go_enter Try.func29, Try.ntmps29
  go_wp2_with fail
  refine (checkTexts_any _ _ _ _ HR.out).mono ?_
  rintro e w1 ⟨rfl, rfl⟩
  rw [HF.out]
  go_wp2_with fail
  refine (words_any t _ ht).mono ?_
  have hblk := Blk.new (w.alloc (.cells #[.string (bstr t)] 9)) 97 (List.replicate 64 (.int .i64 0))
  have hbel := ((Below.refl w.heap.size w).alloc (Nat.le_refl _) (.cells #[.string (bstr t)] 9)).alloc (by simp) (.cells (List.replicate 64 (Value.int .i64 0)).toArray 97)
  rw [World.size_alloc] at hblk
  generalize hwa : (w.alloc (.cells #[.string (bstr t)] 9)).alloc _ = wa at hblk hbel
  have e : ((w.alloc (.cells #[.string (bstr t)] 9)).alloc (.cells #[.int .i64 0, .int .i64 0, .int .i64 0, .int .i64 0, .int .i64 0, .int .i64 0, .int .i64 0, .int .i64 0, .int .i64 0, .int .i64 0, .int .i64 0, .int .i64 0, .int .i64 0, .int .i64 0, .int .i64 0, .int .i64 0, .int .i64 0, .int .i64 0, .int .i64 0, .int .i64 0, .int .i64 0, .int .i64 0, .int .i64 0, .int .i64 0, .int .i64 0, .int .i64 0, .int .i64 0, .int .i64 0, .int .i64 0, .int .i64 0, .int .i64 0, .int .i64 0, .int .i64 0, .int .i64 0, .int .i64 0, .int .i64 0, .int .i64 0, .int .i64 0, .int .i64 0, .int .i64 0, .int .i64 0, .int .i64 0, .int .i64 0, .int .i64 0, .int .i64 0, .int .i64 0, .int .i64 0, .int .i64 0, .int .i64 0, .int .i64 0, .int .i64 0, .int .i64 0, .int .i64 0, .int .i64 0, .int .i64 0, .int .i64 0, .int .i64 0, .int .i64 0, .int .i64 0, .int .i64 0, .int .i64 0, .int .i64 0, .int .i64 0, .int .i64 0] 97)) = wa := hwa
  rw [e]
  clear e hwa
  have hbz := hblk.lt
  have HBK := Lib.hid hblk
  have HBL := Lib.hid hbel
  clear hblk hbel
  rintro e w2 ⟨v, rfl, ho, hb⟩
  have HO := Lib.hid ho
  have HB := Lib.hid hb
  clear ho hb
  obtain ⟨A, c, rfl, hc1, hc2, _⟩ := own_form HO.out
  have HK0 : Hid (Blk w2 (w.heap.size + 1) 97 (moreM (wordsL t) 0 0)) := by rw [moreM_zero]; exact HBK.out.same (same_below HB.out) hbz
  have hrw : (Rp.sl Rp.str).ok w2 (fun g => g < w2.heap.size ∧ some g ≠ some (w.heap.size + 1)) [.slice A (wordsL t).length c] ((wordsL t).map bstr) := by
    have hws := wordsL_size ht
    have h0 : w2.ownsRow wa.heap.size 9 1 (.slice A (wordsL t).length c) (wordsL t).length (((wordsL t).map bstr).map .string) := by rw [List.map_map]; exact HO.out
    refine Rp.str_own h0 (fun x hx => ?_) (fun g hg => ?_)
    · obtain ⟨b, hb, rfl⟩ := List.mem_map.1 hx
      have := hws b hb
      rw [bstr_size]; unfold maxLen; omega
    · have := h0.lt g hg
      exact ⟨this.2, fun e => by injection e with e; omega⟩
  have HRW := Lib.hid hrw
  clear hrw
  go_wp2
  go_loopw [22] (fun i wr => ∃ k : Nat, k ≤ (wordsL t).length ∧ i = .int .i64 k ∧ Hid (Blk wr (w.heap.size + 1) 97 (moreM (wordsL t) k 0)) ∧ Hid (w2.grownBy wr (some (w.heap.size + 1)))) (fun i _ => (wordsL t).length - (intOf i).toNat)
  case atStart => exact ⟨0, by omega, rfl, HK0, World.grownBy.refl _ _⟩
  case round =>
    obtain ⟨k, hk, rfl, HK, HI⟩ := hrel
    by_cases hkl : k < (wordsL t).length
    · have hws := wordsL_size ht
      obtain ⟨ad, u, hA, _, hu, hcell⟩ := Rp.sl_at1 rfl (Rp.keep _ HRW.out (grown_same HI.out) (fun _ h => h)) (k := k) (by simpa using hkl)
      obtain ⟨hu1, _⟩ := hu
      injection hu1 with hu1
      rw [List.getElem_map] at hu1
      subst hu1
      subst hA
      have hwk := hws _ (List.getElem_mem hkl)
      have hf0 := fnv_lo (wordsL t)[k]
      have hf1 := fnv_hi (wordsL t)[k]
      clear hws
      obtain ⟨wo, rfl⟩ : ∃ wo : World, wo = wr := ⟨_, rfl⟩
      go_wp2_with fail
      refine (mixedStr_any _ _ (by omega)).mono ?_
      rintro e w3 ⟨rfl, rfl⟩
      go_wp2
      go_loopw [28] (fun i wr => ∃ j : Nat, j ≤ 64 ∧ i = .int .i64 j ∧ Hid (Blk wr (w.heap.size + 1) 97 (moreM (wordsL t) k j)) ∧ Hid (wo.grownBy wr (some (w.heap.size + 1)))) (fun i _ => 64 - (intOf i).toNat)
      case atStart => exact ⟨0, by omega, rfl, HK, World.grownBy.refl _ _⟩
      case round =>
        obtain ⟨j, hj, rfl, HK1, HI1⟩ := hrel
        by_cases hlt : j < 64
        · have hcl : wr.cell? ⟨w.heap.size + 1, j, none⟩ = some (.int .i64 (moreS ((wordsL t).take k) j)) := by rw [HK1.out.cell, moreM_at _ _ _ hlt]
          have hfr := HK1.out.frozen j
          go_wp2
          go_region
          go_wp2
          go_roundw
          case rel =>
            refine ⟨j + 1, by omega, rfl, ?_, ?_⟩
            · rw [bit_round2 _ j k hkl hwl, ← moreM_set _ _ _ hlt]
              exact HK1.out.set_ _ _
            · exact HI1.out.trans (grown_set _ _ _ _)
          case measure => simp [intOf]; omega
        · obtain rfl : j = 64 := by omega
          rw [moreM_full] at HK1
          go_wp2
          go_roundw
          case rel => exact ⟨k + 1, by omega, by go_num, HK1, HI.out.trans HI1.out⟩
          case measure => simp [intOf]; omega
    · obtain rfl : k = (wordsL t).length := by omega
      have hbl := HBL.out.trans (HB.out.mono (by omega))
      have hbl2 : Below w.heap.size w wr := hbl.grown HI.out (by have := HB.out.size; omega) (fun g e => by injection e with e; omega)
      have HBW := Lib.hid hbl2
      clear hbl hbl2
      go_wp2_with (refine wpList_load_row rfl _ _ rfl (w.heap.size + 1) rfl 97 (moreM (wordsL t) (wordsL t).length 0).toArray (0, 0) (.array 64 3) HK.out Try.underlying97 rfl (by simp only [List.size_toArray, moreM_len]; kernel_rfl) ?_)
      go_loop [10, 46] (fun out i => ∃ j : Nat, j ≤ 64 ∧ i = .int .i64 j ∧ out = .int .u64 (fpAt (wordsL t) j)) (fun _ i => 64 - (intOf i).toNat)
      case atStart => exact ⟨0, by omega, rfl, rfl⟩
      case round =>
        obtain ⟨j, hj, rfl, rfl⟩ := hrel
        by_cases hlt : j < 64
        · have hix := fun W : World => arr_index (wordsL t) j hlt W
          obtain ⟨m, hm⟩ : ∃ m, moreS (wordsL t) j = m := ⟨_, rfl⟩
          by_cases hm0 : 0 < m
          · have HF := Lib.hid (fpAt_one (ws := wordsL t) (i := j) (by omega))
            go_wp2
            go_round
            case rel => exact ⟨j + 1, by omega, rfl, by rw [HF.out]⟩
            case measure => simp [intOf]; omega
          · have HF := Lib.hid (fpAt_none (ws := wordsL t) (i := j) (by omega))
            go_wp2
            go_round
            case rel => exact ⟨j + 1, by omega, rfl, by rw [HF.out]⟩
            case measure => simp [intOf]; omega
        · obtain rfl : j = 64 := by omega
          go_wp2
          go_ret2
          exact ⟨rfl, HBW.out⟩
end Go.Proofs.Ytofahmdjhpbecaa
