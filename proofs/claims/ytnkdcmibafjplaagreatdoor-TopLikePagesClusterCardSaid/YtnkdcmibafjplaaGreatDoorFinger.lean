/-
  Fingerprints: 'mixed' of a string, 'checkTexts', 'Fingerprint' of both packages.
-/
import Derived.Test.YtnkdcmibafjplaaGreatDoorProg
import Derived.Test.YtnkdcmibafjplaaGreatDoorWords
namespace Go.Proofs.YtnkdcmibafjplaaGreatDoor
open Go.RowKit
set_option linter.unusedVariables false
set_option linter.unusedSimpArgs false

set_option maxRecDepth 100000 in
set_option maxHeartbeats 400000 in
theorem mixedStr_any (bs : List UInt8) (w : World) (hl : bs.length ≤ 1000000) :
    Calls Tryz.prog 48 #[.string (bstr bs)] w fun e w' => e = .returned (.int .u64 (fnv bs)) ∧ w = w' := by
  have hsz : (bstr bs).size = bs.length := rfl
  go_enter Tryz.func48, Tryz.ntmps48
  go_wp2
  go_loop [3, 7] (fun n i => ∃ k : Nat, k ≤ bs.length ∧ i = .int .i64 k ∧ n = .int .u64 (fnv (bs.take k))) (fun _ i => bs.length - (intOf i).toNat)
  case atStart => exact ⟨0, Nat.zero_le _, rfl, rfl⟩
  case round =>
    obtain ⟨k, hk, rfl, rfl⟩ := hrel
    by_cases hlt : k < bs.length
    · go_wp2
      go_round
      case rel => exact ⟨k + 1, by omega, by go_num, by rw [fnv_snoc bs k hlt]; rfl⟩
      case measure => simp [intOf]; omega
    · go_wp2
      go_ret
      exact ⟨ret_int (by rw [List.take_of_length_le (by omega)]), rfl⟩

def textsBad (l : List ByteArray) : Bool := l.any fun s => decide (20000 < s.size)
def textsFault (l : List ByteArray) : Int := if textsBad l then 2 else 0
theorem textsFault_bad {l : List ByteArray} {k : Nat} (h : k < l.length) (hb : 20000 < l[k].size) : textsFault l = 2 := by
  have : textsBad l = true := by simp only [textsBad, List.any_eq_true, decide_eq_true_eq]; exact ⟨_, List.getElem_mem h, hb⟩
  rw [textsFault, if_pos this]
theorem textsFault_good {l : List ByteArray} (h : ∀ s ∈ l, s.size ≤ 20000) : textsFault l = 0 := by
  have : textsBad l = false := by simp only [textsBad, List.any_eq_false, decide_eq_true_eq]; exact fun s hs => by have := h s hs; omega
  rw [textsFault, if_neg (by rw [this]; decide)]

set_option maxRecDepth 100000 in
set_option maxHeartbeats 1000000 in
theorem checkTexts_any (v : Value) (l : List ByteArray) (w : World) (S : Nat → Prop) (h : (Rp.sl Rp.str).ok w S [v] l) :
    Calls Tryz.prog 16 #[v] w fun e w' => e = .returned (.int .i64 (textsFault l)) ∧ w = w' := by
  have H := Lib.hid h
  obtain ⟨A, c, rfl, hl, hc, _⟩ := Rp.sl_open h
  unfold maxLen at hc
  clear h
  go_enter Tryz.func16, Tryz.ntmps16
  go_wp2
  go_loop [7] (fun i => ∃ k : Nat, k ≤ l.length ∧ i = .int .i64 k ∧ Hid (∀ s ∈ l.take k, s.size ≤ 20000)) (fun i => l.length - (intOf i).toNat)
  case atStart => exact ⟨0, Nat.zero_le _, rfl, by simp [Hid]⟩
  case round =>
    obtain ⟨k, hk, rfl, HT⟩ := hrel
    by_cases hlt : k < l.length
    · obtain ⟨ad, u, rfl, _, hu, hcell⟩ := Rp.sl_at1 rfl H.out hlt
      obtain ⟨hu1, hu2⟩ := hu
      injection hu1 with hu1
      subst hu1
      unfold maxLen at hu2
      by_cases hbig : 20000 < l[k].size
      · have hf := textsFault_bad hlt hbig
        have HF := Lib.hid hf
        clear hf
        go_wp2
        go_ret
        exact ⟨by rw [HF.out]; rfl, rfl⟩
      · have hT : ∀ b ∈ l.take (k + 1), b.size ≤ 20000 := fun b hb => by
          rw [List.take_succ_eq_append_getElem hlt, List.mem_append, List.mem_singleton] at hb
          rcases hb with hb | rfl
          · exact HT.out b hb
          · omega
        have HT2 := Lib.hid hT
        clear hT
        go_wp2
        go_round
        case rel => exact ⟨k + 1, by omega, by go_num, HT2⟩
        case measure => simp [intOf]; omega
    · have hf := textsFault_good (l := l) (fun s hs => HT.out s (by rw [List.take_of_length_le (by omega)]; exact hs))
      have HF := Lib.hid hf
      clear hf
      go_wp2
      go_ret
      exact ⟨by rw [HF.out]; rfl, rfl⟩

end Go.Proofs.YtnkdcmibafjplaaGreatDoor
