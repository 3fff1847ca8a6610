/-
  'Fingerprint' of both packages.
-/
import Derived.Test.YtofahmdjhpbecaaProg
import Derived.Test.YtofahmdjhpbecaaFinger
import Derived.Test.YtofahmdjhpbecaaStr
namespace Go.Proofs.Ytofahmdjhpbecaa
open Go.RowKit
set_option linter.unusedVariables false
set_option linter.unusedSimpArgs false

/-- The bit i of a number. -/
def bitI (n : Int) (i : Nat) : Int := n / (2 : Int) ^ i % 2
/-- How many more words have the bit i set than not. -/
def moreS (ws : List (List UInt8)) (i : Nat) : Int := ws.foldl (fun s w => s + (bitI (fnv w) i * 2 - 1)) 0
theorem moreS_succ (ws : List (List UInt8)) (i k : Nat) (h : k < ws.length) : moreS (ws.take (k + 1)) i = moreS (ws.take k) i + (bitI (fnv ws[k]) i * 2 - 1) := by
  unfold moreS
  rw [List.take_succ_eq_append_getElem h, List.foldl_append]; rfl
theorem moreS_bound (ws : List (List UInt8)) (i : Nat) : ∀ k, k ≤ ws.length → -(k : Int) ≤ moreS (ws.take k) i ∧ moreS (ws.take k) i ≤ k
  | 0, _ => by simp [moreS]
  | k + 1, h => by
    have ih := moreS_bound ws i k (by omega)
    rw [moreS_succ ws i k (by omega)]
    have h0 : 0 ≤ bitI (fnv ws[k]) i := Int.emod_nonneg _ (by decide)
    have h1 : bitI (fnv ws[k]) i < 2 := Int.emod_lt_of_pos _ (by decide)
    omega
/-- The fingerprint's first i bits. -/
def fpAt (ws : List (List UInt8)) : Nat → Int
  | 0 => 0
  | i + 1 => if 0 < moreS ws i then bits .or .u64 (fpAt ws i) (IntKind.u64.wrap ((2 : Int) ^ i)) else fpAt ws i
theorem fpAt_one {ws : List (List UInt8)} {i : Nat} (h : 0 < moreS ws i) : bits BinOp.or IntKind.u64 (fpAt ws i) (IntKind.u64.wrap ((2 : Int) ^ i)) = fpAt ws (i + 1) := by rw [fpAt, if_pos h]
theorem fpAt_none {ws : List (List UInt8)} {i : Nat} (h : ¬ 0 < moreS ws i) : fpAt ws i = fpAt ws (i + 1) := by rw [fpAt, if_neg h]
theorem ext_trans2 {w a b c : World} (h1 : Below w.heap.size w a) (h2 : Below a.heap.size a b) (h3 : Below b.heap.size b c) : Below w.heap.size w c := ext_trans (ext_trans h1 h2) h3
theorem bit_and {n : Int} (h0 : 0 ≤ n) (h1 : n ≤ 18446744073709551615) (k : Nat) : bits BinOp.and IntKind.u64 (n / 2 ^ k) 1 = bitI n k := by
  have hp : (0 : Int) < 2 ^ k := Int.pow_pos (by decide)
  have h2 : n / 2 ^ k ≤ n := Int.ediv_le_self _ h0
  have h3 : 0 ≤ n / 2 ^ k := Int.ediv_nonneg h0 (Int.le_of_lt hp)
  have := bits_mask .u64 64 (by decide) (fun n h0 h1 => IntWalk.u64_in n ⟨h0, by omega⟩) 1 (by decide) (n / 2 ^ k).toNat (by omega) (by omega)
  unfold bitI
  generalize n / 2 ^ k = y at *
  obtain ⟨m, rfl⟩ := Int.eq_ofNat_of_zero_le h3
  simpa using this
theorem bit_round (ws : List (List UInt8)) (k j : Nat) (h : j < ws.length) (hl : ws.length ≤ 20001) :
    wrap64 (moreS (ws.take j) k + wrap64 (wrap64 (2 * wrap64 (bits BinOp.and IntKind.u64 (fnv ws[j] / 2 ^ k) 1)) - 1)) = moreS (ws.take (j + 1)) k := by
  rw [bit_and (fnv_lo _) (fnv_hi _), moreS_succ ws k j h]
  have hb := moreS_bound ws k j (by omega)
  have h0 : 0 ≤ bitI (fnv ws[j]) k := Int.emod_nonneg _ (by decide)
  have h1 : bitI (fnv ws[j]) k < 2 := Int.emod_lt_of_pos _ (by decide)
  rw [IntWalk.wrap64_in (bitI _ _) ⟨by omega, by omega⟩, IntWalk.wrap64_in (2 * _) ⟨by omega, by omega⟩, IntWalk.wrap64_in (2 * _ - 1) ⟨by omega, by omega⟩, IntWalk.wrap64_in _ ⟨by omega, by omega⟩]
  omega

set_option maxRecDepth 100000 in
set_option maxHeartbeats 4000000 in
theorem refFp_good (t : List UInt8) (w : World) (ht : t.length ≤ 20000) :
    Calls Try.prog 30 #[.string (bstr t)] w fun e w' => e = .returned (.tuple #[.int .u64 (fpAt (wordsL t) 64), .int .i64 0]) ∧ Below w.heap.size w w' := by
  have hsz : (bstr t).size = t.length := rfl
  have hwl := wordsL_len ht
  go_enter Try.func30, Try.ntmps30
  go_wp2
  go_loopw [4, 12] (fun out i wr => ∃ k : Nat, k ≤ 64 ∧ i = .int .i64 k ∧ out = .int .u64 (fpAt (wordsL t) k) ∧ Hid (Below w.heap.size w wr)) (fun _ i _ => 64 - (intOf i).toNat)
  case atStart => exact ⟨0, by omega, rfl, rfl, Below.refl _ _⟩
  case round =>
    obtain ⟨k, hk, rfl, rfl, HW⟩ := hrel
    by_cases hlt : k < 64
    · obtain ⟨wo, rfl⟩ : ∃ wo : World, wo = wr := ⟨_, rfl⟩
      go_wp2_with fail
      refine (refWords_any t _ ht).mono ?_
      rintro e w1 ⟨v, rfl, ho, hb⟩
      have HO := Lib.hid ho
      have HB := Lib.hid hb
      clear ho hb
      obtain ⟨A, c, rfl, hc1, hc2, _⟩ := own_form HO.out
      go_wp2
      go_loopw [6, 18] (fun n i wr => ∃ j : Nat, j ≤ (wordsL t).length ∧ i = .int .i64 j ∧ n = .int .i64 (moreS ((wordsL t).take j) k) ∧ Hid (Below w1.heap.size w1 wr)) (fun _ i _ => (wordsL t).length - (intOf i).toNat)
      case atStart => exact ⟨0, by omega, rfl, rfl, Below.refl _ _⟩
      case round =>
        obtain ⟨j, hj, rfl, rfl, HI⟩ := hrel
        by_cases hjl : j < (wordsL t).length
        · have hws := wordsL_size ht
          have hr : (Rp.sl Rp.str).ok w1 (· < w1.heap.size) [.slice A (wordsL t).length c] ((wordsL t).map bstr) := by
            have h0 : w1.ownsRow wo.heap.size 9 1 (.slice A (wordsL t).length c) (wordsL t).length (((wordsL t).map bstr).map .string) := by rw [List.map_map]; exact HO.out
            refine Rp.str_own h0 (fun x hx => ?_) (fun g hg => (h0.lt g hg).2)
            obtain ⟨b, hb, rfl⟩ := List.mem_map.1 hx
            have := hws b hb
            rw [bstr_size]; unfold maxLen; omega
          obtain ⟨ad, u, hA, _, hu, hcell⟩ := Rp.sl_at1 rfl (Rp.below _ hr HI.out) (by simpa using hjl)
          obtain ⟨hu1, _⟩ := hu
          injection hu1 with hu1
          rw [List.getElem_map] at hu1
          subst hu1
          subst hA
          have hwj := hws _ (List.getElem_mem hjl)
          clear hr
          obtain ⟨wi, rfl⟩ : ∃ wi : World, wi = wr := ⟨_, rfl⟩
          obtain ⟨c3, w3, hcv, hr3, hb3⟩ := conv_str (P := Try.prog) wi 9 22 5 (wordsL t)[j] Try.underlying9 Try.underlying22 Try.underlying5 (by unfold maxLen; omega)
          have HR3 := Lib.hid hr3
          have HB3 := Lib.hid hb3
          clear hr3 hb3
          go_wp2_with fail
          refine (number_any _ _ _ _ HR3.out).mono ?_
          rintro e w4 ⟨rfl, rfl⟩
          have hf0 := fnv_lo (wordsL t)[j]
          have hf1 := fnv_hi (wordsL t)[j]
          go_wp2
          go_roundw
          case rel => exact ⟨j + 1, by omega, by go_num, by rw [bit_round _ k j hjl (by have := wordsL_len ht; omega)], HB3.out _ _ HI.out.size HI.out⟩
          case measure => simp [intOf]; omega
        · obtain rfl : j = (wordsL t).length := by omega
          obtain ⟨m, hm⟩ : ∃ m, moreS (wordsL t) k = m := ⟨_, rfl⟩
          rw [List.take_length, hm]
          by_cases hm0 : 0 < m
          · have HF := Lib.hid (fpAt_one (ws := wordsL t) (i := k) (by omega))
            go_wp2
            go_roundw
            case rel => exact ⟨k + 1, by omega, rfl, by rw [HF.out], ext_trans2 HW.out HB.out HI.out⟩
            case measure => simp [intOf]; omega
          · have HF := Lib.hid (fpAt_none (ws := wordsL t) (i := k) (by omega))
            go_wp2
            go_roundw
            case rel => exact ⟨k + 1, by omega, rfl, by rw [HF.out], ext_trans2 HW.out HB.out HI.out⟩
            case measure => simp [intOf]; omega
    · obtain rfl : k = 64 := by omega
      go_wp2
      go_ret2
      exact ⟨rfl, HW.out⟩
set_option maxRecDepth 100000 in
set_option maxHeartbeats 400000 in
theorem refFp_bad (t : List UInt8) (w : World) (ht : 20000 < t.length) (h2 : t.length ≤ maxLen) :
    Calls Try.prog 30 #[.string (bstr t)] w fun e w' => e = .returned (.tuple #[.int .u64 0, .int .i64 2]) ∧ Below w.heap.size w w' := by
  have hsz : (bstr t).size = t.length := rfl
  unfold maxLen at h2
  go_enter Try.func30, Try.ntmps30
  go_wp2
  go_ret2
  exact ⟨rfl, Below.refl _ _⟩
end Go.Proofs.Ytofahmdjhpbecaa
