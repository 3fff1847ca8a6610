/-
  'slices.Contains' of strings; 'Many' of the reference of chapter 11.
-/
import Derived.Test.YtnkdcmibafjplaaGreatDoorProg
import Derived.Test.YtnkdcmibafjplaaGreatDoorVTop
import Derived.Test.YtnkdcmibafjplaaGreatDoorVCount
namespace Go.Proofs.YtnkdcmibafjplaaGreatDoor
open Go.RowKit
set_option linter.unusedVariables false
set_option linter.unusedSimpArgs false

set_option maxRecDepth 100000 in
set_option maxHeartbeats 1000000 in
theorem indexStr_any (v : Value) (l : List (List UInt8)) (x : List UInt8) (w : World) (S : Nat → Prop) (h : (Rp.sl Rp.str).ok w S [v] (l.map bstr)) :
    Calls Tryz.prog 72 #[v, .string (bstr x)] w fun e w' => ∃ i : Int, e = .returned (.int .i64 i) ∧ Hid (0 ≤ i ↔ x ∈ l) ∧ w' = w := by
  obtain ⟨A, c, rfl, hl, hc, _⟩ := Rp.sl_open h
  unfold maxLen at hc
  rw [List.length_map] at *
  have H := Lib.hid h
  clear h
  go_enter Tryz.func72, Tryz.ntmps72
  go_wp2
  go_loop [8] (fun i => ∃ k : Nat, k ≤ l.length ∧ i = .int .i64 k ∧ Hid (∀ y ∈ l.take k, y ≠ x)) (fun i => l.length - (intOf i).toNat)
  case atStart => exact ⟨0, by omega, rfl, by simp [Hid]⟩
  case round =>
    obtain ⟨k, hk, rfl, HT⟩ := hrel
    by_cases hlt : k < l.length
    · have hkm : k < (l.map bstr).length := by rw [List.length_map]; exact hlt
      have H' := H.out
      obtain ⟨ad, u, rfl, _, hu, hcell⟩ := Rp.sl_at1 rfl H' hkm
      obtain ⟨e1, _⟩ := hu
      injection e1 with e1
      subst e1
      rw [List.getElem_map] at hcell
      by_cases hq : x = l[k]
      · have hb1 : ((bstr x).toList == (bstr l[k]).toList) = true := str_beq (by rw [hq])
        have HM : Hid (x ∈ l) := Lib.hid (by rw [hq]; exact List.getElem_mem hlt)
        clear hq H'
        go_wp2
        go_ret
        exact ⟨k, rfl, Lib.hid ⟨fun _ => HM.out, fun _ => by omega⟩, rfl⟩
      · have hb1 : ((bstr x).toList == (bstr l[k]).toList) = false := str_bne (fun e => hq (bstr_inj e))
        have HT2 : Hid (∀ y ∈ l.take (k + 1), y ≠ x) := fun y hy => by
          rw [List.take_succ_eq_append_getElem hlt, List.mem_append, List.mem_singleton] at hy
          rcases hy with hy | rfl
          · exact HT.out y hy
          · exact Ne.symm hq
        clear hq H'
        go_wp2
        go_round
        case rel => exact ⟨k + 1, by omega, by go_num, HT2⟩
        case measure => simp [intOf]; omega
    · have HM : Hid (x ∉ l) := Lib.hid (fun hx => HT.out x (by rw [List.take_of_length_le (by omega)]; exact hx) rfl)
      go_wp2
      go_ret
      exact ⟨-1, rfl, Lib.hid ⟨fun h => absurd h (by decide), fun h => absurd h HM.out⟩, rfl⟩
set_option maxRecDepth 100000 in
set_option maxHeartbeats 1000000 in
theorem contains_any (v : Value) (l : List (List UInt8)) (x : List UInt8) (w : World) (S : Nat → Prop) (h : (Rp.sl Rp.str).ok w S [v] (l.map bstr)) :
    Calls Tryz.prog 35 #[v, .string (bstr x)] w fun e w' => e = .returned (.bool (decide (x ∈ l))) ∧ w' = w := by
  have hi := indexStr_any v l x w S h
  clear h
  go_enter Tryz.func35, Tryz.ntmps35
  go_wp2_with fail
  refine hi.mono ?_
  rintro e w1 ⟨i, rfl, hd, rfl⟩
  clear hi
  by_cases hi : 0 ≤ i
  · have HF := Lib.hid (decide_eq_true (hd.out.1 hi))
    go_wp2_with fail
    go_ret
    exact ⟨by rw [HF.out]; rfl, rfl⟩
  · have HF := Lib.hid (decide_eq_false (fun h => hi (hd.out.2 h)))
    go_wp2_with fail
    go_ret
    exact ⟨by rw [HF.out]; show Ending.returned (.bool (decide (0 ≤ i))) = _; rw [decide_eq_false (by omega)], rfl⟩
theorem many_take (l : List Held) (it : List UInt8) (k : Nat) (h : k < l.length) : many (l.take (k + 1)) it = many (l.take k) it + if l[k].item = it then 1 else 0 := by
  rw [List.take_succ_eq_append_getElem h, many, many, List.filter_append, List.length_append]
  by_cases e : l[k].item = it <;> simp [e]
theorem many_le (l : List Held) (it : List UInt8) (k : Nat) (h : k ≤ l.length) : many (l.take k) it ≤ k := by
  have := List.length_filter_le (fun h : Held => decide (h.item = it)) (l.take k)
  rw [List.length_take] at this; unfold many; omega
end Go.Proofs.YtnkdcmibafjplaaGreatDoor
