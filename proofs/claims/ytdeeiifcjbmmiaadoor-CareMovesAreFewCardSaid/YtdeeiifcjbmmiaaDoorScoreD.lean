/-
  The digest of a string, with what it does to the draws; the score's number, plainly.
-/
import Derived.Test.YtdeeiifcjbmmiaaDoorProg
import Derived.Test.YtdeeiifcjbmmiaaDoorGrow
import Derived.Test.YtdeeiifcjbmmiaaDoorRow
namespace Go.Proofs.YtdeeiifcjbmmiaaDoor
open Go.RowKit
set_option linter.unusedVariables false
set_option linter.unusedSimpArgs false

set_option maxRecDepth 100000 in
set_option maxHeartbeats 400000 in
theorem hexG_any (n : Int) (w : World) (hn : 0 ≤ n) (hn1 : n ≤ 18446744073709551615) :
    Calls Tryd.prog 80 #[.int .u64 n] w fun e w' => e = .returned (.string (bstr (hexL n 16))) ∧ BG w w' := by
  have hmk : ∀ w, (Instr.makeSlice 76 (.int .i64 16) (.int .i64 16)).run Tryd.prog w = .ok (.slice (some ⟨w.heap.size, 0, none⟩) 16 16) (w.alloc (.cells (List.replicate 16 (.int .u8 0)).toArray 5)) := fun _ => by kernel_rfl
  go_enter Tryd.func80, Tryd.ntmps80
  go_wp2
  go_loopw [0, 8] (fun m i w' => ∃ k : Nat, k ≤ 16 ∧ i = .int .i64 k ∧ m = .int .u64 (n / (16 ^ k : Nat)) ∧ Blk w' w.heap.size 5 (hexCells n k) ∧ BG w w') (fun _ i _ => 16 - (intOf i).toNat)
  case atStart => exact ⟨0, by omega, rfl, by simp, Blk.new w _ _, (BG.refl w).alloc _⟩
  case round =>
    obtain ⟨k, hk, rfl, rfl, hblk, hbel⟩ := hrel
    by_cases hlt : k < 16
    · have hf := hblk.frozen (15 - k)
      obtain ⟨u, hc⟩ : ∃ u, wr.cell? ⟨w.heap.size, 15 - k, none⟩ = some u := by
        rw [hblk.cell]
        exact ⟨_, List.getElem?_eq_getElem (by simp [hexCells, hexL_len]; omega)⟩
      have HB := Lib.hid hblk
      have HD := Lib.hid hbel
      have h0 : 0 ≤ n / (16 ^ k : Nat) := Int.ediv_nonneg hn (Int.natCast_nonneg _)
      have h1 : n / (16 ^ k : Nat) ≤ 18446744073709551615 := Int.le_trans (Int.ediv_le_self _ hn) hn1
      obtain ⟨m, hm⟩ : ∃ m, m = n / (16 ^ k : Nat) := ⟨_, rfl⟩
      rw [← hm] at h0 h1 ⊢
      have hb := u64_and15 m h0 h1
      clear h1
      clear hn1
      have HM := Lib.hid hm
      clear hblk hbel hm
      go_wp2
      go_roundw
      case rel =>
        refine ⟨k + 1, by omega, by go_num, ?_, ?_, HD.out.set_ (Nat.le_refl _) _⟩
        · rw [HM.out, Int.ediv_ediv_of_nonneg (Int.natCast_nonneg _), Nat.pow_succ]; rfl
        · rw [hexB_eq, HM.out, ← hexCells_succ n k hlt]; exact HB.out.set_ _ _
      case measure => simp [intOf]; omega
    · have hk16 : k = 16 := by omega
      subst hk16
      have hrp : (Rp.sl Rp.u8).ok wr (fun _ => True) [.slice (some ⟨w.heap.size, 0, none⟩) 16 16] (hexL n 16) := by
        refine ⟨_, 16, by rw [hexL_len], by rw [hexL_len]; omega, by unfold maxLen; omega, by simp, fun j hj => ⟨_, _, rfl, trivial, rfl, fun i u hu => ?_⟩⟩
        have hi : i = 0 := by
          match i, hu with
          | 0, _ => rfl
        subst hi
        have hadd : (⟨w.heap.size, 0, none⟩ : Addr).add (j * Rp.u8.sz + 0) = ⟨w.heap.size, j, none⟩ := by unfold Addr.add; simp only [Rp.u8, Nat.mul_one, Nat.add_zero]; split <;> simp_all
        rw [hadd, hblk.cell, ← hu]
        simp [hexCells, hj]
      have hcv := conv_bytes (P := Tryd.prog) 76 5 9 Tryd.underlying76 Tryd.underlying5 Tryd.underlying9 hrp
      clear hrp hblk
      go_wp2
      go_ret
      exact ⟨rfl, hbel⟩
set_option maxHeartbeats 400000 in
theorem digestG_any (v : Value) (bs : List UInt8) (w : World) (S : Nat → Prop) (h : (Rp.sl Rp.u8).ok w S [v] bs) :
    Calls Tryd.prog 62 #[v] w fun e w' => e = .returned (.string (bstr (hexL (fnv bs) 16))) ∧ BG w w' := by
  have b0 := fnv_lo bs
  have b1 := fnv_hi bs
  have H := Lib.hid h
  obtain ⟨A, c, rfl, hl, hc, _⟩ := Rp.sl_open h
  clear h
  go_enter Tryd.func62, Tryd.ntmps62
  go_wp2_with fail
  refine (mixed_any _ bs w S H.out).mono ?_
  rintro e w' ⟨rfl, rfl⟩
  go_wp2_with fail
  refine (hexG_any (fnv bs) w b0 b1).mono ?_
  rintro e w' ⟨rfl, hb⟩
  go_wp2
  go_ret
  exact ⟨rfl, hb⟩

theorem conv_strG {P : Program} (w : World) (src dst e : TypeId) (bs : List UInt8) (hs : P.underlying src = some .string) (hd : P.underlying dst = some (.slice e)) (he : P.underlying e = some (.int .u8)) (hl : bs.length ≤ maxLen) :
    ∃ c w', (convert src dst (.string (bstr bs))).run P w = .ok (.slice (some ⟨w.heap.size, 0, none⟩) bs.length c) w' ∧ (Rp.sl Rp.u8).ok w' (· < w'.heap.size) [.slice (some ⟨w.heap.size, 0, none⟩) bs.length c] bs ∧ BG w w' := by
  refine ⟨_, _, run_bytes_of_string w src dst e (bstr bs) hs hd he, ?_, (BG.refl w).drew.alloc _⟩
  refine ⟨_, _, rfl, grownCap_ge w (bstr bs).size 0 e, grownCap_le_maxLen w _ 0 e hl, by simp, fun j hj => ⟨_, _, rfl, by rw [World.size_alloc]; exact Nat.lt_succ_self _, rfl, fun i u hu => ?_⟩⟩
  have hi : i = 0 := by
    match i, hu with
    | 0, _ => rfl
  subst hi
  have hadd : (⟨w.heap.size, 0, none⟩ : Addr).add (j * Rp.u8.sz + 0) = ⟨w.heap.size, j, none⟩ := by unfold Addr.add; simp only [Rp.u8, Nat.mul_one, Nat.add_zero]; split <;> simp_all
  rw [hadd, ← hu]
  exact (cell_of_row _ _ j _ e _ (heap_alloc_new w.drew _)).trans (bytesRow_at (bstr bs) _ j hj)
set_option maxRecDepth 100000 in
set_option maxHeartbeats 400000 in
theorem cdigestG_any (t : List UInt8) (w : World) (ht : t.length ≤ 9223372036854775807) :
    Calls Tryd.prog 45 #[.string (bstr t)] w fun e w' => e = .returned (.string (bstr (digL t))) ∧ BG w w' := by
  obtain ⟨c3, w3, hcv, hr3, hb3⟩ := conv_strG (P := Tryd.prog) w 9 76 5 t Tryd.underlying9 Tryd.underlying76 Tryd.underlying5 (by unfold maxLen; omega)
  have HR3 := Lib.hid hr3
  have HB3 := Lib.hid hb3
  clear hr3 hb3
  go_enter Tryd.func45, Tryd.ntmps45
  go_wp2_with fail
  refine (digestG_any _ _ _ _ HR3.out).mono ?_
  rintro e w4 ⟨rfl, hb4⟩
  have HB4 := Lib.hid (HB3.out.trans hb4)
  clear hb4
  go_wp2_with fail
  go_ret
  exact ⟨rfl, HB4.out⟩
/-! ### The score's number -/
theorem digL_at (t : List UInt8) (k : Nat) (hk : k < 16) (h : k < (digL t).length) : (digL t)[k] = hexB (fnv t / (16 ^ (15 - k) : Nat)) := by
  have e : ∀ (i : Nat) (hi : i < (hexL (fnv t) 16).length), (hexL (fnv t) 16)[i] = hexB (fnv t / (16 ^ (15 - i) : Nat)) := by
    intro i hi
    simp only [hexL, List.getElem_map, List.getElem_reverse, List.length_range, List.getElem_range]
  exact e k h
/-- The first k digits of the digest as a number. -/
def topN (t : List UInt8) (k : Nat) : Int := fnv t / (16 ^ (16 - k) : Nat)
theorem topN_zero (t : List UInt8) : topN t 0 = 0 := by
  have h1 := fnv_lo t
  have h2 := fnv_hi t
  unfold topN
  exact Int.ediv_eq_zero_of_lt h1 (by simp; omega)
theorem topN_succ (t : List UInt8) {k : Nat} (hk : k < 16) : topN t (k + 1) = 16 * topN t k + fnv t / (16 ^ (15 - k) : Nat) % 16 := by
  unfold topN
  rw [show 16 - (k + 1) = 15 - k by omega, show 16 - k = (15 - k) + 1 by omega, Nat.pow_succ]
  have e : fnv t / ((16 ^ (15 - k) * 16 : Nat) : Int) = fnv t / (16 ^ (15 - k) : Nat) / 16 := by
    rw [Int.natCast_mul, ← Int.ediv_ediv_of_nonneg (Int.natCast_nonneg _)]; rfl
  rw [e]
  omega
theorem topN_range (t : List UInt8) {k : Nat} (hk : k ≤ 6) : 0 ≤ topN t k ∧ topN t k < 16777216 := by
  have h1 := fnv_lo t
  have h2 := fnv_hi t
  unfold topN
  refine ⟨Int.ediv_nonneg h1 (Int.natCast_nonneg _), ?_⟩
  have h3 : ((16 ^ 10 : Nat) : Int) ≤ ((16 ^ (16 - k) : Nat) : Int) := by
    exact Int.ofNat_le.2 (Nat.pow_le_pow_right (by decide) (by omega))
  refine Int.ediv_lt_of_lt_mul (by exact Int.ofNat_lt.2 (Nat.pow_pos (by decide))) ?_
  have h4 : (16777216 : Int) * ((16 ^ 10 : Nat) : Int) ≤ 16777216 * ((16 ^ (16 - k) : Nat) : Int) := Int.mul_le_mul_of_nonneg_left h3 (by decide)
  have h5 : (16777216 : Int) * ((16 ^ 10 : Nat) : Int) = 18446744073709551616 := by decide
  omega
def hexStr : List UInt8 := [48, 49, 50, 51, 52, 53, 54, 55, 56, 57, 97, 98, 99, 100, 101, 102]
theorem hexB_idx (m : Int) : Lib.indexByte hexStr (hexB m) = m % 16 := by
  have h0 : 0 ≤ m % 16 := Int.emod_nonneg _ (by decide)
  have h1 : m % 16 < 16 := Int.emod_lt_of_pos _ (by decide)
  unfold hexB
  obtain ⟨k, hk⟩ := Int.eq_ofNat_of_zero_le h0
  rw [hk] at h1 ⊢
  have hk2 : k < 16 := by omega
  rw [Int.toNat_natCast]
  have : ∀ k : Fin 16, Lib.indexByte hexStr (([48, 49, 50, 51, 52, 53, 54, 55, 56, 57, 97, 98, 99, 100, 101, 102] : List UInt8).getD k.val 0) = (k.val : Int) := by decide
  exact this ⟨k, hk2⟩
end Go.Proofs.YtdeeiifcjbmmiaaDoor
