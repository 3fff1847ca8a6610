/-
  'Fingerprint' of both packages, for every text.
-/
import Derived.Test.YtofahmdjhpbecaaProg
import Derived.Test.YtofahmdjhpbecaaFinger3
namespace Go.Proofs.Ytofahmdjhpbecaa
open Go.RowKit
set_option linter.unusedVariables false
set_option linter.unusedSimpArgs false

theorem fpAt_nat (ws : List (List UInt8)) : ∀ i, ∃ n : Nat, n < 18446744073709551616 ∧ fpAt ws i = n
  | 0 => ⟨0, by omega, rfl⟩
  | i + 1 => by
    obtain ⟨n, hn, e⟩ := fpAt_nat ws i
    rw [fpAt]
    split
    · rw [e, IntKind.wrap_u64]
      have h1 : 0 ≤ (2 : Int) ^ i % 18446744073709551616 := Int.emod_nonneg _ (by decide)
      have h2 : (2 : Int) ^ i % 18446744073709551616 < 18446744073709551616 := Int.emod_lt_of_pos _ (by decide)
      generalize (2 : Int) ^ i % 18446744073709551616 = y at *
      obtain ⟨m, rfl⟩ := Int.eq_ofNat_of_zero_le h1
      rw [bits_or_u64_nat n m hn (by omega)]
      exact ⟨_, Nat.or_lt_two_pow (n := 64) hn (by omega), rfl⟩
    · exact ⟨n, hn, e⟩
def fpOut (t : List UInt8) : Nat := if t.length ≤ 20000 then (fpAt (wordsL t) 64).toNat else 0
def fpFault (t : List UInt8) : Int := if t.length ≤ 20000 then 0 else 2
theorem fpOut_lt (t : List UInt8) : fpOut t < 18446744073709551616 := by
  unfold fpOut
  split
  · obtain ⟨n, hn, e⟩ := fpAt_nat (wordsL t) 64
    rw [e]; simpa using hn
  · decide
theorem fpOut_good {t : List UInt8} (h : t.length ≤ 20000) : fpAt (wordsL t) 64 = (fpOut t : Int) := by
  obtain ⟨n, hn, e⟩ := fpAt_nat (wordsL t) 64
  rw [fpOut, if_pos h, e]; rfl

set_option maxRecDepth 100000 in
set_option maxHeartbeats 400000 in
theorem fp_any (t : List UInt8) (w : World) (h2 : t.length ≤ maxLen) :
    Calls Try.prog 29 #[.string (bstr t)] w fun e w' => e = .returned (.tuple #[.int .u64 (fpOut t : Nat), .int .i64 (fpFault t)]) ∧ Below w.heap.size w w' := by
  by_cases ht : t.length ≤ 20000
  · refine (fp_good t w ht).mono ?_
    rintro e w' ⟨rfl, hb⟩
    rw [fpOut_good ht, fpFault, if_pos ht]
    exact ⟨rfl, hb⟩
  · have ho : fpOut t = 0 := if_neg ht
    have hf : fpFault t = 2 := if_neg ht
    rw [ho, hf]
    unfold maxLen at h2
    have hr : (Rp.sl Rp.str).ok (w.alloc (.cells #[.string (bstr t)] 9)) (· < w.heap.size + 1) [.slice (some ⟨w.heap.size, 0, none⟩) 1 1] [bstr t] := by
      refine ⟨_, _, rfl, by simp, by simp [maxLen], by simp, fun k hk => ?_⟩
      obtain rfl : k = 0 := by simpa using hk
      refine ⟨_, _, rfl, by simp, ⟨rfl, by rw [List.getElem_cons_zero, bstr_size]; unfold maxLen; omega⟩, fun j u hu => ?_⟩
      match j, hu with
      | 0, hu => rw [show (0 * Rp.str.sz + 0) = 0 from rfl, add_nil]; exact (cell_of_row _ _ 0 _ _ _ (heap_alloc_new w _)).trans hu
    have hf2 : textsFault [bstr t] = 2 := textsFault_bad (k := 0) (by simp) (by simp [bstr_size]; omega)
    have HR := Lib.hid hr
    have HF := Lib.hid hf2
    clear hr hf2 ho hf
    go_enter Try.func29, Try.ntmps29
    go_wp2_with fail
    refine (checkTexts_any _ _ _ _ HR.out).mono ?_
    rintro e w1 ⟨rfl, rfl⟩
    rw [HF.out]
    go_wp2
    go_ret2
    exact ⟨rfl, (Below.refl _ _).alloc (Nat.le_refl _) _⟩
set_option maxRecDepth 100000 in
set_option maxHeartbeats 400000 in
theorem refFp_any (t : List UInt8) (w : World) (h2 : t.length ≤ maxLen) :
    Calls Try.prog 30 #[.string (bstr t)] w fun e w' => e = .returned (.tuple #[.int .u64 (fpOut t : Nat), .int .i64 (fpFault t)]) ∧ Below w.heap.size w w' := by
  by_cases ht : t.length ≤ 20000
  · refine (refFp_good t w ht).mono ?_
    rintro e w' ⟨rfl, hb⟩
    rw [fpOut_good ht, fpFault, if_pos ht]
    exact ⟨rfl, hb⟩
  · have ho : fpOut t = 0 := if_neg ht
    have hf : fpFault t = 2 := if_neg ht
    rw [ho, hf]
    exact refFp_bad t w (by omega) h2
end Go.Proofs.Ytofahmdjhpbecaa
