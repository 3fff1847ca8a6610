/-
  'isLine' of the reference: a line is not empty, and has no byte 10 before its end.
-/
import Derived.Test.YtofahmdjhpbecaaProg
import Derived.Test.YtofahmdjhpbecaaLines
namespace Go.Proofs.Ytofahmdjhpbecaa
open Go.RowKit
set_option linter.unusedVariables false
set_option linter.unusedSimpArgs false

def lineOk (t : List UInt8) : Bool := decide (t ≠ [] ∧ (10 : UInt8) ∉ t.dropLast)
theorem take_no {t : List UInt8} {k : Nat} (h : (10 : UInt8) ∉ t.take k) (hk : k < t.length) (hn : t[k] ≠ 10) : (10 : UInt8) ∉ t.take (k + 1) := by
  rw [List.take_succ_eq_append_getElem hk, List.mem_append, List.mem_singleton]
  rintro (e | e)
  · exact h e
  · exact hn e.symm
theorem lineOk_bad {t : List UInt8} {k : Nat} (hk : k + 1 < t.length) (h : t[k] = 10) : lineOk t = false := by
  refine decide_eq_false fun e => e.2 ?_
  rw [List.dropLast_eq_take, ← h]
  exact List.mem_take_iff_getElem.2 ⟨k, by omega, rfl⟩
set_option maxRecDepth 100000 in
set_option maxHeartbeats 400000 in
theorem isLine_any (t : List UInt8) (w : World) (ht : t.length ≤ 9223372036854775807) : Calls Try.prog 108 #[.string (bstr t)] w fun e w' => e = .returned (.bool (lineOk t)) ∧ w = w' := by
  have hsz : (bstr t).size = t.length := rfl
  go_enter Try.func108, Try.ntmps108
  go_wp2
  go_loop [7] (fun i => ∃ k : Nat, k ≤ t.length - 1 ∧ i = .int .i64 k ∧ Hid ((10 : UInt8) ∉ t.take k)) (fun i => t.length - (intOf i).toNat)
  case atStart => exact ⟨0, by omega, rfl, by simp [Hid]⟩
  case round =>
    obtain ⟨k, hk, rfl, HT⟩ := hrel
    by_cases hlt : k + 1 < t.length
    · have hkl : k < t.length := by omega
      have hlt' : (k : Int) < (t.length : Int) - 1 := by omega
      have hg : (bstr t)[k]'(by rw [hsz]; exact hkl) = t[k] := rfl
      by_cases h10 : t[k] = 10
      · have HF := Lib.hid (lineOk_bad hlt h10)
        have hb : ((((bstr t)[k]'(by rw [hsz]; exact hkl)).toNat : Int) == 10) = true := by rw [hg, h10]; rfl
        clear hg h10
        go_wp2
        go_ret
        exact ⟨by rw [HF.out]; rfl, rfl⟩
      · have HT2 := Lib.hid (take_no HT.out hkl h10)
        have hb : ((((bstr t)[k]'(by rw [hsz]; exact hkl)).toNat : Int) == 10) = false := by
          rw [hg, beq_eq_false_iff_ne]
          intro e
          apply h10
          have : t[k].toNat = 10 := by omega
          exact UInt8.toNat_inj.1 this
        clear hg h10
        go_wp2
        go_round
        case rel => exact ⟨k + 1, by omega, by go_num, HT2⟩
        case measure => simp [intOf]; omega
    · have hlt' : ¬ ((k : Int) < (t.length : Int) - 1) := by omega
      by_cases h0 : t = []
      · have hv : lineOk t = false := decide_eq_false (fun h => h.1 h0)
        have HV := Lib.hid hv
        have hb := bstr_empty h0
        clear hv h0
        go_wp2
        go_ret
        refine ⟨?_, rfl⟩
        rw [HV.out]
        rfl
      · have hv : lineOk t = true := decide_eq_true ⟨h0, by rw [List.dropLast_eq_take]; have := HT.out; have hpos := List.length_pos_iff.2 h0; rw [show k = t.length - 1 by omega] at this; exact this⟩
        have HV := Lib.hid hv
        have hb := bstr_some h0
        clear hv h0
        go_wp2
        go_ret
        refine ⟨?_, rfl⟩
        rw [HV.out]
        rfl
end Go.Proofs.Ytofahmdjhpbecaa
