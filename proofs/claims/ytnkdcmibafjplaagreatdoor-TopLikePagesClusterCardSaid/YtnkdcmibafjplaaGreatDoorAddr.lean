/-
  Functions of package address at plain strings.
-/
import Derived.Test.YtnkdcmibafjplaaGreatDoorProg
import Derived.Test.YtnkdcmibafjplaaGreatDoorBase
import Derived.Test.YtnkdcmibafjplaaGreatDoorStr
import Derived.Test.YtnkdcmibafjplaaGreatDoorSplitA
import Derived.Test.YtnkdcmibafjplaaGreatDoorGInt
import Derived.Deep.RegionHeld
namespace Go.Proofs.YtnkdcmibafjplaaGreatDoor
open Go.RowKit Go.Shelf
set_option linter.unusedVariables false
set_option linter.unusedSimpArgs false

set_option maxRecDepth 100000 in
set_option maxHeartbeats 2000000 in
theorem small_any (s : List UInt8) (w : World) (hl : s.length ≤ 1000) (hs : ∀ c ∈ s, ¬ (65 ≤ c.toNat ∧ c.toNat ≤ 90)) : Calls Tryz.prog 82 #[.string (bstr s)] w fun e w' => e = .returned (.string (bstr s)) ∧ Below w.heap.size w w' := by
  obtain ⟨c3, w3, hcv, hr3, hb3⟩ := conv_str (P := Tryz.prog) w 9 33 5 s Tryz.underlying9 Tryz.underlying33 Tryz.underlying5 (by unfold maxLen; omega)
  have HB3 := Lib.hid (hb3 w.heap.size w (Nat.le_refl _) (Below.refl _ _))
  have HR3 := Lib.hid hr3
  have HS := Lib.hid hs
  have hcb := conv_bytes (P := Tryz.prog) 33 5 9 Tryz.underlying33 Tryz.underlying5 Tryz.underlying9 hr3
  clear hr3 hb3 hs
  go_enter Tryz.func82, Tryz.ntmps82
  go_wp2_with fail
  go_loopw [10] (fun vi wr => ∃ k : Nat, k ≤ s.length ∧ vi = .int .i64 k ∧ wr = w3) (fun vi _ => s.length - (intOf vi).toNat)
  case atStart => exact ⟨0, by omega, rfl, rfl⟩
  case round =>
    obtain ⟨k, hk, rfl, rfl⟩ := hrel
    by_cases hlt : k < s.length
    · have hmL : (k : Int) < (s.length : Int) := by omega
      have c0 : wr.cell? ⟨w.heap.size, k, none⟩ = some (.int .u8 (s[k].toNat : Int)) := by
        obtain ⟨a', u', e', _, hu', hcell'⟩ := Rp.sl_at1 rfl HR3.out hlt
        cases e'
        cases hu'
        have hadd : (⟨w.heap.size, 0, none⟩ : Addr).add k = ⟨w.heap.size, k, none⟩ := by unfold Addr.add; split <;> simp_all
        rw [← hadd]
        exact hcell'
      have hq := HS.out s[k] (List.getElem_mem hlt)
      generalize (s[k].toNat : Nat) = n at *
      by_cases h1 : 65 ≤ n
      · have h1' : (65 : Int) ≤ (n : Int) := by omega
        have h2' : ¬ (n : Int) ≤ 90 := by omega
        clear hq
        go_wp2_with fail
        go_roundw
        case rel => exact ⟨k + 1, by omega, by go_num, by first | rfl | trivial⟩
        case measure => simp [intOf]; omega
      · have h1' : ¬ (65 : Int) ≤ (n : Int) := by omega
        clear hq
        go_wp2_with fail
        go_roundw
        case rel => exact ⟨k + 1, by omega, by go_num, by first | rfl | trivial⟩
        case measure => simp [intOf]; omega
    · obtain rfl : k = s.length := by omega
      go_wp2_with fail
      go_ret
      exact ⟨rfl, HB3.out⟩
set_option maxRecDepth 100000 in
set_option maxHeartbeats 2000000 in
theorem letter_any (n : Nat) (w : World) (h1 : 97 ≤ n) (h2 : n ≤ 122) : Calls Tryz.prog 169 #[.int .u8 (n : Int)] w fun e w' => e = .returned (.bool true) ∧ w' = w := by
  have h1' : (97 : Int) ≤ (n : Int) := by omega
  have h2' : (n : Int) ≤ 122 := by omega
  clear h1 h2
  go_enter Tryz.func169, Tryz.ntmps169
  go_wp2_with fail
  go_ret
  exact ⟨rfl, rfl⟩
set_option maxRecDepth 100000 in
set_option maxHeartbeats 2000000 in
theorem label_97 (w : World) : Calls Tryz.prog 133 #[.string ⟨#[97]⟩] w fun e w' => e = .returned (.bool true) ∧ w' = w := by
  have hc0 : ((⟨#[97]⟩ : ByteArray)[0]'(by decide)).toNat = 97 := rfl
  go_enter Tryz.func133, Tryz.ntmps133
  go_wp2_with fail
  go_loopw [27] (fun vi wr => ∃ k : Nat, k ≤ 1 ∧ vi = .int .i64 k ∧ wr = w) (fun vi _ => 1 - (intOf vi).toNat)
  case atStart => exact ⟨0, by omega, rfl, rfl⟩
  case round =>
    obtain ⟨k, hk, rfl, rfl⟩ := hrel
    have hk2 : k = 0 ∨ k = 1 := by omega
    rcases hk2 with rfl | rfl
    · rw [show (((0 : Nat) : Int)) = 0 from rfl]
      go_wp2_with fail
      refine (letter_any 97 _ (by decide) (by decide)).mono ?_
      rintro e w1 ⟨rfl, hw1⟩
      subst hw1
      go_wp2_with fail
      go_roundw
      case rel => first | exact ⟨1, by omega, rfl, trivial⟩ | (repeat (apply Exists.intro); (refine And.intro ?_ ?_; rotate_left; (repeat' (first | exact rfl | apply And.intro)); exact ⟨1, by omega, rfl, trivial⟩))
      case measure => simp [intOf]
    · rw [show (((1 : Nat) : Int)) = 1 from rfl]
      go_wp2_with fail
      go_ret
      exact ⟨rfl, rfl⟩
set_option maxRecDepth 100000 in
set_option maxHeartbeats 2000000 in
theorem label_98 (w : World) : Calls Tryz.prog 133 #[.string ⟨#[98]⟩] w fun e w' => e = .returned (.bool true) ∧ w' = w := by
  have hc0 : ((⟨#[98]⟩ : ByteArray)[0]'(by decide)).toNat = 98 := rfl
  go_enter Tryz.func133, Tryz.ntmps133
  go_wp2_with fail
  go_loopw [27] (fun vi wr => ∃ k : Nat, k ≤ 1 ∧ vi = .int .i64 k ∧ wr = w) (fun vi _ => 1 - (intOf vi).toNat)
  case atStart => exact ⟨0, by omega, rfl, rfl⟩
  case round =>
    obtain ⟨k, hk, rfl, rfl⟩ := hrel
    have hk2 : k = 0 ∨ k = 1 := by omega
    rcases hk2 with rfl | rfl
    · rw [show (((0 : Nat) : Int)) = 0 from rfl]
      go_wp2_with fail
      refine (letter_any 98 _ (by decide) (by decide)).mono ?_
      rintro e w1 ⟨rfl, hw1⟩
      subst hw1
      go_wp2_with fail
      go_roundw
      case rel => first | exact ⟨1, by omega, rfl, trivial⟩ | (repeat (apply Exists.intro); (refine And.intro ?_ ?_; rotate_left; (repeat' (first | exact rfl | apply And.intro)); exact ⟨1, by omega, rfl, trivial⟩))
      case measure => simp [intOf]
    · rw [show (((1 : Nat) : Int)) = 1 from rfl]
      go_wp2_with fail
      go_ret
      exact ⟨rfl, rfl⟩
theorem split_ab (w : World) (hG : GInt w) : Calls Tryz.prog 111 #[.string ⟨#[97, 46, 98]⟩, .string ⟨#[46]⟩] w fun e w' => e = .returned (.slice (some ⟨w.heap.size, 0, none⟩) 2 2) ∧ w' = w.alloc (.cells #[.string ⟨#[97]⟩, .string ⟨#[98]⟩] 9) := by
  obtain ⟨m, hm⟩ := hG
  have h := Any.strings_Split splitLays string_info ⟨#[97, 46, 98]⟩ ⟨#[46]⟩ m w (by decide) hm (by decide)
  have e1 : Lib.countB ⟨#[97, 46, 98]⟩ ⟨#[46]⟩ = 1 := by decide
  rw [e1] at h
  have e2 : Lib.splitB ⟨#[46]⟩ 0 1 ⟨#[97, 46, 98]⟩ = [⟨#[97]⟩, ⟨#[98]⟩] := by decide
  rw [e2] at h
  exact h
theorem split_c (w : World) (hG : GInt w) : Calls Tryz.prog 111 #[.string ⟨#[99]⟩, .string ⟨#[47]⟩] w fun e w' => e = .returned (.slice (some ⟨w.heap.size, 0, none⟩) 1 1) ∧ w' = w.alloc (.cells #[.string ⟨#[99]⟩] 9) := by
  obtain ⟨m, hm⟩ := hG
  have h := Any.strings_Split splitLays string_info ⟨#[99]⟩ ⟨#[47]⟩ m w (by decide) hm (by decide)
  have e1 : Lib.countB ⟨#[99]⟩ ⟨#[47]⟩ = 0 := by decide
  rw [e1] at h
  have e2 : Lib.splitB ⟨#[47]⟩ 0 0 ⟨#[99]⟩ = [⟨#[99]⟩] := by decide
  rw [e2] at h
  exact h
set_option maxRecDepth 100000 in
set_option maxHeartbeats 2000000 in
theorem host_ab (w : World) (hG : GInt w) : Calls Tryz.prog 83 #[.string ⟨#[97, 46, 98]⟩] w fun e w' => e = .returned (.bool true) ∧ Below w.heap.size w w' := by
  have HS := Lib.hid (split_ab w hG)
  have HB := Lib.hid ((Below.refl w.heap.size w).alloc (Nat.le_refl _) (.cells #[.string ⟨#[97]⟩, .string ⟨#[98]⟩] 9))
  have HK := Lib.hid (Blk.new w 9 [.string ⟨#[97]⟩, .string ⟨#[98]⟩])
  clear hG
  go_enter Tryz.func83, Tryz.ntmps83
  go_wp2_with fail
  refine HS.out.mono ?_
  rintro e w1 ⟨rfl, hw⟩
  rw [← hw] at HB HK
  clear hw HS
  go_wp2_with fail
  go_loopw [11] (fun vi wr => ∃ k : Nat, k ≤ 2 ∧ vi = .int .i64 k ∧ wr = w1) (fun vi _ => 2 - (intOf vi).toNat)
  case atStart => exact ⟨0, by omega, rfl, rfl⟩
  case round =>
    obtain ⟨k, hk, rfl, rfl⟩ := hrel
    have c0 : wr.cell? ⟨w.heap.size, 0, none⟩ = some (.string ⟨#[97]⟩) := HK.out.cell 0
    have c1 : wr.cell? ⟨w.heap.size, 1, none⟩ = some (.string ⟨#[98]⟩) := HK.out.cell 1
    have hk2 : k = 0 ∨ k = 1 ∨ k = 2 := by omega
    rcases hk2 with rfl | rfl | rfl
    · rw [show (((0 : Nat) : Int)) = 0 from rfl]
      go_wp2_with fail
      refine (label_97 _).mono ?_
      rintro e w2 ⟨rfl, hw2⟩
      subst hw2
      go_wp2_with fail
      go_roundw
      case rel => first | exact ⟨1, by omega, rfl, trivial⟩ | (repeat (apply Exists.intro); (refine And.intro ?_ ?_; rotate_left; (repeat' (first | exact rfl | apply And.intro)); exact ⟨1, by omega, rfl, trivial⟩))
      case measure => simp [intOf]
    · rw [show (((1 : Nat) : Int)) = 1 from rfl]
      go_wp2_with fail
      refine (label_98 _).mono ?_
      rintro e w2 ⟨rfl, hw2⟩
      subst hw2
      go_wp2_with fail
      go_roundw
      case rel => first | exact ⟨2, by omega, rfl, trivial⟩ | (repeat (apply Exists.intro); (refine And.intro ?_ ?_; rotate_left; (repeat' (first | exact rfl | apply And.intro)); exact ⟨2, by omega, rfl, trivial⟩))
      case measure => simp [intOf]
    · rw [show (((2 : Nat) : Int)) = 2 from rfl]
      go_wp2_with fail
      go_ret
      exact ⟨rfl, HB.out⟩
set_option maxRecDepth 100000 in
set_option maxHeartbeats 400000 in
theorem indexByte_any (s : ByteArray) (c : Int) (w : World) :
    Calls Tryz.prog 171 #[.string s, .int .u8 c] w fun e w' => e = .returned (.int .i64 (Lib.indexByte s.data.toList c.toNat.toUInt8)) ∧ w = w' := by
  go_enter Tryz.func171, Tryz.ntmps171
  go_wp2
  rw [run_callFunc_extern Tryz.func211 (by kernel_rfl) (by kernel_rfl) (by kernel_rfl) (e := Extern.BytealgIndexByte.indexByte) (by kernel_rfl), Lib.run_indexByteString]
  simp only [Result.andThen]
  rw [Oper.upon_value]
  go_wp2
  go_ret
  exact ⟨rfl, rfl⟩
set_option maxRecDepth 100000 in
set_option maxHeartbeats 2000000 in
theorem rowEnd_nil (wo : ByteArray) (w : World) : Calls Tryz.prog 134 #[.string ⟨#[]⟩, .string wo] w fun e w' => e = .returned (.tuple #[.int .i64 0, .bool true]) ∧ w' = w := by
  go_enter Tryz.func134, Tryz.ntmps134
  go_wp2_with fail
  go_loopw [6] (fun vi wr => vi = .int .i64 0 ∧ wr = w) (fun _ _ => 0)
  case atStart => exact ⟨rfl, rfl⟩
  case round =>
    obtain ⟨rfl, rfl⟩ := hrel
    go_wp2_with fail
    go_ret2
    exact ⟨rfl, rfl⟩
set_option maxRecDepth 100000 in
set_option maxHeartbeats 2000000 in
theorem rowEnd_c (w : World) : Calls Tryz.prog 134 #[.string ⟨#[47, 99]⟩, .string ⟨#[63]⟩] w fun e w' => e = .returned (.tuple #[.int .i64 2, .bool true]) ∧ w' = w := by
  have hc0 : ((⟨#[47, 99]⟩ : ByteArray)[0]'(by decide)).toNat = 47 := rfl
  have hc1 : ((⟨#[47, 99]⟩ : ByteArray)[1]'(by decide)).toNat = 99 := rfl
  go_enter Tryz.func134, Tryz.ntmps134
  go_wp2_with fail
  go_loopw [6] (fun vi wr => ∃ k : Nat, k ≤ 2 ∧ vi = .int .i64 k ∧ wr = w) (fun vi _ => 2 - (intOf vi).toNat)
  case atStart => exact ⟨0, by omega, rfl, rfl⟩
  case round =>
    obtain ⟨k, hk, rfl, rfl⟩ := hrel
    have hk2 : k = 0 ∨ k = 1 ∨ k = 2 := by omega
    rcases hk2 with rfl | rfl | rfl
    · rw [show (((0 : Nat) : Int)) = 0 from rfl]
      go_wp2_with fail
      have h1 := indexByte_any ⟨#[63]⟩ 47 wr
      rw [show Lib.indexByte (⟨#[63]⟩ : ByteArray).data.toList (Int.toNat 47).toUInt8 = -1 by decide] at h1
      refine h1.mono ?_
      clear h1
      rintro e w2 ⟨rfl, hw2⟩
      subst hw2
      go_wp2_with fail
      have h1 := indexByte_any ⟨#[34, 35, 60, 62, 92, 94, 123, 124, 125, 96]⟩ 47 wr
      rw [show Lib.indexByte (⟨#[34, 35, 60, 62, 92, 94, 123, 124, 125, 96]⟩ : ByteArray).data.toList (Int.toNat 47).toUInt8 = -1 by decide] at h1
      refine h1.mono ?_
      clear h1
      rintro e w3 ⟨rfl, hw3⟩
      subst hw3
      go_wp2_with fail
      go_roundw
      case rel => first | exact ⟨1, by omega, rfl, trivial⟩ | (repeat (apply Exists.intro); (refine And.intro ?_ ?_; rotate_left; (repeat' (first | exact rfl | apply And.intro)); exact ⟨1, by omega, rfl, trivial⟩))
      case measure => simp [intOf]
    · rw [show (((1 : Nat) : Int)) = 1 from rfl]
      go_wp2_with fail
      have h1 := indexByte_any ⟨#[63]⟩ 99 wr
      rw [show Lib.indexByte (⟨#[63]⟩ : ByteArray).data.toList (Int.toNat 99).toUInt8 = -1 by decide] at h1
      refine h1.mono ?_
      clear h1
      rintro e w2 ⟨rfl, hw2⟩
      subst hw2
      go_wp2_with fail
      have h1 := indexByte_any ⟨#[34, 35, 60, 62, 92, 94, 123, 124, 125, 96]⟩ 99 wr
      rw [show Lib.indexByte (⟨#[34, 35, 60, 62, 92, 94, 123, 124, 125, 96]⟩ : ByteArray).data.toList (Int.toNat 99).toUInt8 = -1 by decide] at h1
      refine h1.mono ?_
      clear h1
      rintro e w3 ⟨rfl, hw3⟩
      subst hw3
      go_wp2_with fail
      go_roundw
      case rel => first | exact ⟨2, by omega, rfl, trivial⟩ | (repeat (apply Exists.intro); (refine And.intro ?_ ?_; rotate_left; (repeat' (first | exact rfl | apply And.intro)); exact ⟨2, by omega, rfl, trivial⟩))
      case measure => simp [intOf]
    · rw [show (((2 : Nat) : Int)) = 2 from rfl]
      go_wp2_with fail
      go_ret2
      exact ⟨rfl, rfl⟩
set_option maxRecDepth 100000 in
set_option maxHeartbeats 2000000 in
theorem isRow_c (w : World) : Calls Tryz.prog 85 #[.string ⟨#[47, 99]⟩, .string ⟨#[63]⟩] w fun e w' => e = .returned (.bool true) ∧ w' = w := by
  go_enter Tryz.func85, Tryz.ntmps85
  go_wp2_with fail
  refine (rowEnd_c w).mono ?_
  rintro e w1 ⟨rfl, hw⟩
  subst hw
  go_wp2_with fail
  go_ret
  exact ⟨rfl, rfl⟩
set_option maxRecDepth 100000 in
set_option maxHeartbeats 2000000 in
theorem isRow_nil (w : World) : Calls Tryz.prog 85 #[.string ⟨#[]⟩, .string ⟨#[]⟩] w fun e w' => e = .returned (.bool true) ∧ w' = w := by
  go_enter Tryz.func85, Tryz.ntmps85
  go_wp2_with fail
  refine (rowEnd_nil _ w).mono ?_
  rintro e w1 ⟨rfl, hw⟩
  subst hw
  go_wp2_with fail
  go_ret
  exact ⟨rfl, rfl⟩
set_option maxRecDepth 100000 in
set_option maxHeartbeats 2000000 in
theorem behind_c (w : World) : Calls Tryz.prog 135 #[.agg #[.string ⟨#[104, 116, 116, 112]⟩, .string ⟨#[97, 46, 98]⟩, .string ⟨#[]⟩, .string ⟨#[47, 99]⟩, .string ⟨#[]⟩, .bool false, .string ⟨#[]⟩, .bool false]] w fun e w' => e = .returned (.string ⟨#[47, 99]⟩) ∧ Below w.heap.size w w' := by
  have hk := Blk.new w 80 [.string ⟨#[104, 116, 116, 112]⟩, .string ⟨#[97, 46, 98]⟩, .string ⟨#[]⟩, .string ⟨#[47, 99]⟩, .string ⟨#[]⟩, .bool false, .string ⟨#[]⟩, .bool false]
  have HB := Lib.hid ((Below.refl w.heap.size w).alloc (Nat.le_refl _) (.cells #[.string ⟨#[104, 116, 116, 112]⟩, .string ⟨#[97, 46, 98]⟩, .string ⟨#[]⟩, .string ⟨#[47, 99]⟩, .string ⟨#[]⟩, .bool false, .string ⟨#[]⟩, .bool false] 80))
  have a0 : (w.alloc (.cells #[.string ⟨#[104, 116, 116, 112]⟩, .string ⟨#[97, 46, 98]⟩, .string ⟨#[]⟩, .string ⟨#[47, 99]⟩, .string ⟨#[]⟩, .bool false, .string ⟨#[]⟩, .bool false] 80)).cell? ⟨w.heap.size, 0, none⟩ = some (.string ⟨#[104, 116, 116, 112]⟩) := hk.cell 0
  have a1 : (w.alloc (.cells #[.string ⟨#[104, 116, 116, 112]⟩, .string ⟨#[97, 46, 98]⟩, .string ⟨#[]⟩, .string ⟨#[47, 99]⟩, .string ⟨#[]⟩, .bool false, .string ⟨#[]⟩, .bool false] 80)).cell? ⟨w.heap.size, 1, none⟩ = some (.string ⟨#[97, 46, 98]⟩) := hk.cell 1
  have a2 : (w.alloc (.cells #[.string ⟨#[104, 116, 116, 112]⟩, .string ⟨#[97, 46, 98]⟩, .string ⟨#[]⟩, .string ⟨#[47, 99]⟩, .string ⟨#[]⟩, .bool false, .string ⟨#[]⟩, .bool false] 80)).cell? ⟨w.heap.size, 2, none⟩ = some (.string ⟨#[]⟩) := hk.cell 2
  have a3 : (w.alloc (.cells #[.string ⟨#[104, 116, 116, 112]⟩, .string ⟨#[97, 46, 98]⟩, .string ⟨#[]⟩, .string ⟨#[47, 99]⟩, .string ⟨#[]⟩, .bool false, .string ⟨#[]⟩, .bool false] 80)).cell? ⟨w.heap.size, 3, none⟩ = some (.string ⟨#[47, 99]⟩) := hk.cell 3
  have a4 : (w.alloc (.cells #[.string ⟨#[104, 116, 116, 112]⟩, .string ⟨#[97, 46, 98]⟩, .string ⟨#[]⟩, .string ⟨#[47, 99]⟩, .string ⟨#[]⟩, .bool false, .string ⟨#[]⟩, .bool false] 80)).cell? ⟨w.heap.size, 4, none⟩ = some (.string ⟨#[]⟩) := hk.cell 4
  have a5 : (w.alloc (.cells #[.string ⟨#[104, 116, 116, 112]⟩, .string ⟨#[97, 46, 98]⟩, .string ⟨#[]⟩, .string ⟨#[47, 99]⟩, .string ⟨#[]⟩, .bool false, .string ⟨#[]⟩, .bool false] 80)).cell? ⟨w.heap.size, 5, none⟩ = some (.bool false) := hk.cell 5
  have a6 : (w.alloc (.cells #[.string ⟨#[104, 116, 116, 112]⟩, .string ⟨#[97, 46, 98]⟩, .string ⟨#[]⟩, .string ⟨#[47, 99]⟩, .string ⟨#[]⟩, .bool false, .string ⟨#[]⟩, .bool false] 80)).cell? ⟨w.heap.size, 6, none⟩ = some (.string ⟨#[]⟩) := hk.cell 6
  have a7 : (w.alloc (.cells #[.string ⟨#[104, 116, 116, 112]⟩, .string ⟨#[97, 46, 98]⟩, .string ⟨#[]⟩, .string ⟨#[47, 99]⟩, .string ⟨#[]⟩, .bool false, .string ⟨#[]⟩, .bool false] 80)).cell? ⟨w.heap.size, 7, none⟩ = some (.bool false) := hk.cell 7
  clear hk
  go_enter Tryz.func135, Tryz.ntmps135
  go_wp2_with fail
  go_ret
  exact ⟨rfl, HB.out⟩
set_option maxRecDepth 100000 in
set_option maxHeartbeats 2000000 in
theorem write_ab (w : World) : Calls Tryz.prog 86 #[.agg #[.string ⟨#[104, 116, 116, 112]⟩, .string ⟨#[97, 46, 98]⟩, .string ⟨#[]⟩, .string ⟨#[47, 99]⟩, .string ⟨#[]⟩, .bool false, .string ⟨#[]⟩, .bool false]] w fun e w' => e = .returned (.string ⟨#[104, 116, 116, 112, 58, 47, 47, 97, 46, 98, 47, 99]⟩) ∧ Below w.heap.size w w' := by
  have hk := Blk.new w 80 [.string ⟨#[104, 116, 116, 112]⟩, .string ⟨#[97, 46, 98]⟩, .string ⟨#[]⟩, .string ⟨#[47, 99]⟩, .string ⟨#[]⟩, .bool false, .string ⟨#[]⟩, .bool false]
  have HB := Lib.hid ((Below.refl w.heap.size w).alloc (Nat.le_refl _) (.cells #[.string ⟨#[104, 116, 116, 112]⟩, .string ⟨#[97, 46, 98]⟩, .string ⟨#[]⟩, .string ⟨#[47, 99]⟩, .string ⟨#[]⟩, .bool false, .string ⟨#[]⟩, .bool false] 80))
  have a0 : (w.alloc (.cells #[.string ⟨#[104, 116, 116, 112]⟩, .string ⟨#[97, 46, 98]⟩, .string ⟨#[]⟩, .string ⟨#[47, 99]⟩, .string ⟨#[]⟩, .bool false, .string ⟨#[]⟩, .bool false] 80)).cell? ⟨w.heap.size, 0, none⟩ = some (.string ⟨#[104, 116, 116, 112]⟩) := hk.cell 0
  have a1 : (w.alloc (.cells #[.string ⟨#[104, 116, 116, 112]⟩, .string ⟨#[97, 46, 98]⟩, .string ⟨#[]⟩, .string ⟨#[47, 99]⟩, .string ⟨#[]⟩, .bool false, .string ⟨#[]⟩, .bool false] 80)).cell? ⟨w.heap.size, 1, none⟩ = some (.string ⟨#[97, 46, 98]⟩) := hk.cell 1
  have a2 : (w.alloc (.cells #[.string ⟨#[104, 116, 116, 112]⟩, .string ⟨#[97, 46, 98]⟩, .string ⟨#[]⟩, .string ⟨#[47, 99]⟩, .string ⟨#[]⟩, .bool false, .string ⟨#[]⟩, .bool false] 80)).cell? ⟨w.heap.size, 2, none⟩ = some (.string ⟨#[]⟩) := hk.cell 2
  have a3 : (w.alloc (.cells #[.string ⟨#[104, 116, 116, 112]⟩, .string ⟨#[97, 46, 98]⟩, .string ⟨#[]⟩, .string ⟨#[47, 99]⟩, .string ⟨#[]⟩, .bool false, .string ⟨#[]⟩, .bool false] 80)).cell? ⟨w.heap.size, 3, none⟩ = some (.string ⟨#[47, 99]⟩) := hk.cell 3
  have a4 : (w.alloc (.cells #[.string ⟨#[104, 116, 116, 112]⟩, .string ⟨#[97, 46, 98]⟩, .string ⟨#[]⟩, .string ⟨#[47, 99]⟩, .string ⟨#[]⟩, .bool false, .string ⟨#[]⟩, .bool false] 80)).cell? ⟨w.heap.size, 4, none⟩ = some (.string ⟨#[]⟩) := hk.cell 4
  have a5 : (w.alloc (.cells #[.string ⟨#[104, 116, 116, 112]⟩, .string ⟨#[97, 46, 98]⟩, .string ⟨#[]⟩, .string ⟨#[47, 99]⟩, .string ⟨#[]⟩, .bool false, .string ⟨#[]⟩, .bool false] 80)).cell? ⟨w.heap.size, 5, none⟩ = some (.bool false) := hk.cell 5
  have a6 : (w.alloc (.cells #[.string ⟨#[104, 116, 116, 112]⟩, .string ⟨#[97, 46, 98]⟩, .string ⟨#[]⟩, .string ⟨#[47, 99]⟩, .string ⟨#[]⟩, .bool false, .string ⟨#[]⟩, .bool false] 80)).cell? ⟨w.heap.size, 6, none⟩ = some (.string ⟨#[]⟩) := hk.cell 6
  have a7 : (w.alloc (.cells #[.string ⟨#[104, 116, 116, 112]⟩, .string ⟨#[97, 46, 98]⟩, .string ⟨#[]⟩, .string ⟨#[47, 99]⟩, .string ⟨#[]⟩, .bool false, .string ⟨#[]⟩, .bool false] 80)).cell? ⟨w.heap.size, 7, none⟩ = some (.bool false) := hk.cell 7
  clear hk
  go_enter Tryz.func86, Tryz.ntmps86
  go_wp2_with fail
  refine (behind_c _).mono ?_
  rintro e w1 ⟨rfl, hb⟩
  have HB1 := Lib.hid (ext_trans HB.out hb)
  clear hb
  go_wp2_with fail
  go_ret
  exact ⟨rfl, HB1.out⟩
theorem small_http (w : World) : Calls Tryz.prog 82 #[.string ⟨#[104, 116, 116, 112]⟩] w fun e w' => e = .returned (.string ⟨#[104, 116, 116, 112]⟩) ∧ Below w.heap.size w w' :=
  (small_any [104, 116, 116, 112] w (by decide) (by decide)).mono fun e w' h => ⟨h.1.trans rfl, h.2⟩
theorem small_ab (w : World) : Calls Tryz.prog 82 #[.string ⟨#[97, 46, 98]⟩] w fun e w' => e = .returned (.string ⟨#[97, 46, 98]⟩) ∧ Below w.heap.size w w' :=
  (small_any [97, 46, 98] w (by decide) (by decide)).mono fun e w' h => ⟨h.1.trans rfl, h.2⟩
set_option maxRecDepth 100000 in
set_option maxHeartbeats 2000000 in
theorem check_ab (w : World) (hG : GInt w) : Calls Tryz.prog 53 #[.agg #[.string ⟨#[104, 116, 116, 112]⟩, .string ⟨#[97, 46, 98]⟩, .string ⟨#[]⟩, .string ⟨#[47, 99]⟩, .string ⟨#[]⟩, .bool false, .string ⟨#[]⟩, .bool false]] w fun e w' => e = .returned (.int .i64 0) ∧ Below w.heap.size w w' := by
  have hk := Blk.new w 80 [.string ⟨#[104, 116, 116, 112]⟩, .string ⟨#[97, 46, 98]⟩, .string ⟨#[]⟩, .string ⟨#[47, 99]⟩, .string ⟨#[]⟩, .bool false, .string ⟨#[]⟩, .bool false]
  have hab := (Below.refl w.heap.size w).alloc (Nat.le_refl _) (.cells #[.string ⟨#[104, 116, 116, 112]⟩, .string ⟨#[97, 46, 98]⟩, .string ⟨#[]⟩, .string ⟨#[47, 99]⟩, .string ⟨#[]⟩, .bool false, .string ⟨#[]⟩, .bool false] 80)
  have HK0 : Hid (Blk (w.alloc (.cells #[.string ⟨#[104, 116, 116, 112]⟩, .string ⟨#[97, 46, 98]⟩, .string ⟨#[]⟩, .string ⟨#[47, 99]⟩, .string ⟨#[]⟩, .bool false, .string ⟨#[]⟩, .bool false] 80)) w.heap.size 80 [.string ⟨#[104, 116, 116, 112]⟩, .string ⟨#[97, 46, 98]⟩, .string ⟨#[]⟩, .string ⟨#[47, 99]⟩, .string ⟨#[]⟩, .bool false, .string ⟨#[]⟩, .bool false]) := Lib.hid hk
  have HB0 := Lib.hid hab
  have HG0 := Lib.hid (hG.ext hab)
  have a0 : (w.alloc (.cells #[.string ⟨#[104, 116, 116, 112]⟩, .string ⟨#[97, 46, 98]⟩, .string ⟨#[]⟩, .string ⟨#[47, 99]⟩, .string ⟨#[]⟩, .bool false, .string ⟨#[]⟩, .bool false] 80)).cell? ⟨w.heap.size, 0, none⟩ = some (.string ⟨#[104, 116, 116, 112]⟩) := HK0.out.cell 0
  have a1 : (w.alloc (.cells #[.string ⟨#[104, 116, 116, 112]⟩, .string ⟨#[97, 46, 98]⟩, .string ⟨#[]⟩, .string ⟨#[47, 99]⟩, .string ⟨#[]⟩, .bool false, .string ⟨#[]⟩, .bool false] 80)).cell? ⟨w.heap.size, 1, none⟩ = some (.string ⟨#[97, 46, 98]⟩) := HK0.out.cell 1
  have a2 : (w.alloc (.cells #[.string ⟨#[104, 116, 116, 112]⟩, .string ⟨#[97, 46, 98]⟩, .string ⟨#[]⟩, .string ⟨#[47, 99]⟩, .string ⟨#[]⟩, .bool false, .string ⟨#[]⟩, .bool false] 80)).cell? ⟨w.heap.size, 2, none⟩ = some (.string ⟨#[]⟩) := HK0.out.cell 2
  have a3 : (w.alloc (.cells #[.string ⟨#[104, 116, 116, 112]⟩, .string ⟨#[97, 46, 98]⟩, .string ⟨#[]⟩, .string ⟨#[47, 99]⟩, .string ⟨#[]⟩, .bool false, .string ⟨#[]⟩, .bool false] 80)).cell? ⟨w.heap.size, 3, none⟩ = some (.string ⟨#[47, 99]⟩) := HK0.out.cell 3
  have a4 : (w.alloc (.cells #[.string ⟨#[104, 116, 116, 112]⟩, .string ⟨#[97, 46, 98]⟩, .string ⟨#[]⟩, .string ⟨#[47, 99]⟩, .string ⟨#[]⟩, .bool false, .string ⟨#[]⟩, .bool false] 80)).cell? ⟨w.heap.size, 4, none⟩ = some (.string ⟨#[]⟩) := HK0.out.cell 4
  have a5 : (w.alloc (.cells #[.string ⟨#[104, 116, 116, 112]⟩, .string ⟨#[97, 46, 98]⟩, .string ⟨#[]⟩, .string ⟨#[47, 99]⟩, .string ⟨#[]⟩, .bool false, .string ⟨#[]⟩, .bool false] 80)).cell? ⟨w.heap.size, 5, none⟩ = some (.bool false) := HK0.out.cell 5
  have a6 : (w.alloc (.cells #[.string ⟨#[104, 116, 116, 112]⟩, .string ⟨#[97, 46, 98]⟩, .string ⟨#[]⟩, .string ⟨#[47, 99]⟩, .string ⟨#[]⟩, .bool false, .string ⟨#[]⟩, .bool false] 80)).cell? ⟨w.heap.size, 6, none⟩ = some (.string ⟨#[]⟩) := HK0.out.cell 6
  have a7 : (w.alloc (.cells #[.string ⟨#[104, 116, 116, 112]⟩, .string ⟨#[97, 46, 98]⟩, .string ⟨#[]⟩, .string ⟨#[47, 99]⟩, .string ⟨#[]⟩, .bool false, .string ⟨#[]⟩, .bool false] 80)).cell? ⟨w.heap.size, 7, none⟩ = some (.bool false) := HK0.out.cell 7
  clear hk hab hG
  go_enter Tryz.func53, Tryz.ntmps53
  go_wp2_with fail
  refine (small_http _).mono ?_
  rintro e w1 ⟨rfl, hb⟩
  have HB1 := Lib.hid (ext_trans HB0.out hb)
  have HK1 := Lib.hid (HK0.out.same (same_below hb) HK0.out.lt)
  have HG1 := Lib.hid (HG0.out.ext hb)
  clear hb HB0 HK0 HG0 a0 a1 a2 a3 a4 a5 a6 a7
  have a0 : w1.cell? ⟨w.heap.size, 0, none⟩ = some (.string ⟨#[104, 116, 116, 112]⟩) := HK1.out.cell 0
  have a1 : w1.cell? ⟨w.heap.size, 1, none⟩ = some (.string ⟨#[97, 46, 98]⟩) := HK1.out.cell 1
  have a2 : w1.cell? ⟨w.heap.size, 2, none⟩ = some (.string ⟨#[]⟩) := HK1.out.cell 2
  have a3 : w1.cell? ⟨w.heap.size, 3, none⟩ = some (.string ⟨#[47, 99]⟩) := HK1.out.cell 3
  have a4 : w1.cell? ⟨w.heap.size, 4, none⟩ = some (.string ⟨#[]⟩) := HK1.out.cell 4
  have a5 : w1.cell? ⟨w.heap.size, 5, none⟩ = some (.bool false) := HK1.out.cell 5
  have a6 : w1.cell? ⟨w.heap.size, 6, none⟩ = some (.string ⟨#[]⟩) := HK1.out.cell 6
  have a7 : w1.cell? ⟨w.heap.size, 7, none⟩ = some (.bool false) := HK1.out.cell 7
  go_wp2_with fail
  refine (host_ab _ HG1.out).mono ?_
  rintro e w2 ⟨rfl, hb⟩
  have HB2 := Lib.hid (ext_trans HB1.out hb)
  have HK2 := Lib.hid (HK1.out.same (same_below hb) HK1.out.lt)
  have HG2 := Lib.hid (HG1.out.ext hb)
  clear hb HB1 HK1 HG1 a0 a1 a2 a3 a4 a5 a6 a7
  have a0 : w2.cell? ⟨w.heap.size, 0, none⟩ = some (.string ⟨#[104, 116, 116, 112]⟩) := HK2.out.cell 0
  have a1 : w2.cell? ⟨w.heap.size, 1, none⟩ = some (.string ⟨#[97, 46, 98]⟩) := HK2.out.cell 1
  have a2 : w2.cell? ⟨w.heap.size, 2, none⟩ = some (.string ⟨#[]⟩) := HK2.out.cell 2
  have a3 : w2.cell? ⟨w.heap.size, 3, none⟩ = some (.string ⟨#[47, 99]⟩) := HK2.out.cell 3
  have a4 : w2.cell? ⟨w.heap.size, 4, none⟩ = some (.string ⟨#[]⟩) := HK2.out.cell 4
  have a5 : w2.cell? ⟨w.heap.size, 5, none⟩ = some (.bool false) := HK2.out.cell 5
  have a6 : w2.cell? ⟨w.heap.size, 6, none⟩ = some (.string ⟨#[]⟩) := HK2.out.cell 6
  have a7 : w2.cell? ⟨w.heap.size, 7, none⟩ = some (.bool false) := HK2.out.cell 7
  go_wp2_with fail
  refine (isRow_c _).mono ?_
  rintro e wq ⟨rfl, hw⟩
  subst hw
  go_wp2_with fail
  refine (isRow_nil _).mono ?_
  rintro e wq ⟨rfl, hw⟩
  subst hw
  go_wp2_with fail
  refine (isRow_nil _).mono ?_
  rintro e wq ⟨rfl, hw⟩
  subst hw
  go_wp2_with fail
  refine (write_ab _).mono ?_
  rintro e w3 ⟨rfl, hb⟩
  have HB3 := Lib.hid (ext_trans HB2.out hb)
  have HK3 := Lib.hid (HK2.out.same (same_below hb) HK2.out.lt)
  have HG3 := Lib.hid (HG2.out.ext hb)
  clear hb HB2 HK2 HG2 a0 a1 a2 a3 a4 a5 a6 a7
  have a0 : w3.cell? ⟨w.heap.size, 0, none⟩ = some (.string ⟨#[104, 116, 116, 112]⟩) := HK3.out.cell 0
  have a1 : w3.cell? ⟨w.heap.size, 1, none⟩ = some (.string ⟨#[97, 46, 98]⟩) := HK3.out.cell 1
  have a2 : w3.cell? ⟨w.heap.size, 2, none⟩ = some (.string ⟨#[]⟩) := HK3.out.cell 2
  have a3 : w3.cell? ⟨w.heap.size, 3, none⟩ = some (.string ⟨#[47, 99]⟩) := HK3.out.cell 3
  have a4 : w3.cell? ⟨w.heap.size, 4, none⟩ = some (.string ⟨#[]⟩) := HK3.out.cell 4
  have a5 : w3.cell? ⟨w.heap.size, 5, none⟩ = some (.bool false) := HK3.out.cell 5
  have a6 : w3.cell? ⟨w.heap.size, 6, none⟩ = some (.string ⟨#[]⟩) := HK3.out.cell 6
  have a7 : w3.cell? ⟨w.heap.size, 7, none⟩ = some (.bool false) := HK3.out.cell 7
  go_wp2_with fail
  go_ret
  exact ⟨rfl, HB3.out⟩
set_option maxRecDepth 100000 in
set_option maxHeartbeats 2000000 in
theorem same_nil (w : World) : Calls Tryz.prog 54 #[.slice none 0 0] w fun e w' => e = .returned (.int .i64 0) ∧ w' = w := by
  go_enter Tryz.func54, Tryz.ntmps54
  go_wp2_with fail
  go_loopw [11] (fun vi wr => vi = .int .i64 0 ∧ wr = w) (fun _ _ => 0)
  case atStart => exact ⟨rfl, rfl⟩
  case round =>
    obtain ⟨rfl, rfl⟩ := hrel
    go_wp2_with fail
    go_ret
    exact ⟨rfl, rfl⟩
end Go.Proofs.YtnkdcmibafjplaaGreatDoor
