/-
  Functions of package address at plain strings.
  normal, key and Key of package address at http://a.b/c.
  has, CutPrefix, LastIndexByte, pathOf, Normal of package address at these strings.
  slices.Reverse of two strings; turned, key and Key of package address; lives of ephemeratop.
-/
import Derived.Test.YtnkdcmibafjplaaGreatDoorProg
import Derived.Test.YtnkdcmibafjplaaGreatDoorBase
import Derived.Test.YtnkdcmibafjplaaGreatDoorStr
import Derived.Test.YtnkdcmibafjplaaGreatDoorSplitA
import Derived.Test.YtnkdcmibafjplaaGreatDoorGInt
import Derived.Deep.RegionHeld
import Derived.Test.YtnkdcmibafjplaaGreatDoorList
import Derived.Lib.Join
import Derived.Laws.Rows
import Derived.Laws.ResultCell
import Derived.Shelf.Strings.OnBuilder
import Derived.Shelf.Strings.BuilderK
import Derived.Deep.RegionHeld3
namespace Go.Proofs.YtnkdcmibafjplaaGreatDoor
open Go.RowKit Go.Shelf
set_option linter.unusedVariables false
set_option linter.unusedSimpArgs false

set_option maxRecDepth 100000 in
set_option maxHeartbeats 2000000 in
theorem small_any (s : List UInt8) (w : World) (hl : s.length ≤ 1000) (hs : ∀ c ∈ s, ¬ (65 ≤ c.toNat ∧ c.toNat ≤ 90)) : Calls Tryz.prog 82 #[.string (bstr s)] w fun e w' => e = .returned (.string (bstr s)) ∧ Below w.heap.size w w' := by
  obtain ⟨c3, w3, hcv, hr3, hb3⟩ := conv_str (P := Tryz.prog) w 9 33 5 s Tryz.underlying9 Tryz.underlying33 Tryz.underlying5 (by unfold maxLen; omega)
  have HB3 := Lib.hid (hb3 w.heap.size w (Nat.le_refl _) (Below.refl _ _))
  have HR3 := Lib.hid hr3
  have HS := Lib.hid hs
  have hcb := conv_bytes (P := Tryz.prog) 33 5 9 Tryz.underlying33 Tryz.underlying5 Tryz.underlying9 hr3
  clear hr3 hb3 hs
  go_enter Tryz.func82, Tryz.ntmps82
  go_wp2_with fail
  go_loopw [10] (fun vi wr => ∃ k : Nat, k ≤ s.length ∧ vi = .int .i64 k ∧ wr = w3) (fun vi _ => s.length - (intOf vi).toNat)
  case atStart => exact ⟨0, by omega, rfl, rfl⟩
  case round =>
    obtain ⟨k, hk, rfl, rfl⟩ := hrel
    by_cases hlt : k < s.length
    · have hmL : (k : Int) < (s.length : Int) := by omega
      have c0 : wr.cell? ⟨w.heap.size, k, none⟩ = some (.int .u8 (s[k].toNat : Int)) := by
        obtain ⟨a', u', e', _, hu', hcell'⟩ := Rp.sl_at1 rfl HR3.out hlt
        cases e'
        cases hu'
        have hadd : (⟨w.heap.size, 0, none⟩ : Addr).add k = ⟨w.heap.size, k, none⟩ := by unfold Addr.add; split <;> simp_all
        rw [← hadd]
        exact hcell'
      have hq := HS.out s[k] (List.getElem_mem hlt)
      generalize (s[k].toNat : Nat) = n at *
      by_cases h1 : 65 ≤ n
      · have h1' : (65 : Int) ≤ (n : Int) := by omega
        have h2' : ¬ (n : Int) ≤ 90 := by omega
        clear hq
        go_wp2_with fail
        go_roundw
        case rel => exact ⟨k + 1, by omega, by go_num, by first | rfl | trivial⟩
        case measure => simp [intOf]; omega
      · have h1' : ¬ (65 : Int) ≤ (n : Int) := by omega
        clear hq
        go_wp2_with fail
        go_roundw
        case rel => exact ⟨k + 1, by omega, by go_num, by first | rfl | trivial⟩
        case measure => simp [intOf]; omega
    · obtain rfl : k = s.length := by omega
      go_wp2_with fail
      go_ret
      exact ⟨rfl, HB3.out⟩
set_option maxRecDepth 100000 in
set_option maxHeartbeats 2000000 in
theorem letter_any (n : Nat) (w : World) (h1 : 97 ≤ n) (h2 : n ≤ 122) : Calls Tryz.prog 169 #[.int .u8 (n : Int)] w fun e w' => e = .returned (.bool true) ∧ w' = w := by
  have h1' : (97 : Int) ≤ (n : Int) := by omega
  have h2' : (n : Int) ≤ 122 := by omega
  clear h1 h2
  go_enter Tryz.func169, Tryz.ntmps169
  go_wp2_with fail
  go_ret
  exact ⟨rfl, rfl⟩
set_option maxRecDepth 100000 in
set_option maxHeartbeats 2000000 in
theorem label_97 (w : World) : Calls Tryz.prog 133 #[.string ⟨#[97]⟩] w fun e w' => e = .returned (.bool true) ∧ w' = w := by
  have hc0 : ((⟨#[97]⟩ : ByteArray)[0]'(by decide)).toNat = 97 := rfl
  go_enter Tryz.func133, Tryz.ntmps133
  go_wp2_with fail
  go_loopw [27] (fun vi wr => ∃ k : Nat, k ≤ 1 ∧ vi = .int .i64 k ∧ wr = w) (fun vi _ => 1 - (intOf vi).toNat)
  case atStart => exact ⟨0, by omega, rfl, rfl⟩
  case round =>
    obtain ⟨k, hk, rfl, rfl⟩ := hrel
    have hk2 : k = 0 ∨ k = 1 := by omega
    rcases hk2 with rfl | rfl
    · rw [show (((0 : Nat) : Int)) = 0 from rfl]
      go_wp2_with fail
      refine (letter_any 97 _ (by decide) (by decide)).mono ?_
      rintro e w1 ⟨rfl, hw1⟩
      subst hw1
      go_wp2_with fail
      go_roundw
      case rel => first | exact ⟨1, by omega, rfl, trivial⟩ | (repeat (apply Exists.intro); (refine And.intro ?_ ?_; rotate_left; (repeat' (first | exact rfl | apply And.intro)); exact ⟨1, by omega, rfl, trivial⟩))
      case measure => simp [intOf]
    · rw [show (((1 : Nat) : Int)) = 1 from rfl]
      go_wp2_with fail
      go_ret
      exact ⟨rfl, rfl⟩
set_option maxRecDepth 100000 in
set_option maxHeartbeats 2000000 in
theorem label_98 (w : World) : Calls Tryz.prog 133 #[.string ⟨#[98]⟩] w fun e w' => e = .returned (.bool true) ∧ w' = w := by
  have hc0 : ((⟨#[98]⟩ : ByteArray)[0]'(by decide)).toNat = 98 := rfl
  go_enter Tryz.func133, Tryz.ntmps133
  go_wp2_with fail
  go_loopw [27] (fun vi wr => ∃ k : Nat, k ≤ 1 ∧ vi = .int .i64 k ∧ wr = w) (fun vi _ => 1 - (intOf vi).toNat)
  case atStart => exact ⟨0, by omega, rfl, rfl⟩
  case round =>
    obtain ⟨k, hk, rfl, rfl⟩ := hrel
    have hk2 : k = 0 ∨ k = 1 := by omega
    rcases hk2 with rfl | rfl
    · rw [show (((0 : Nat) : Int)) = 0 from rfl]
      go_wp2_with fail
      refine (letter_any 98 _ (by decide) (by decide)).mono ?_
      rintro e w1 ⟨rfl, hw1⟩
      subst hw1
      go_wp2_with fail
      go_roundw
      case rel => first | exact ⟨1, by omega, rfl, trivial⟩ | (repeat (apply Exists.intro); (refine And.intro ?_ ?_; rotate_left; (repeat' (first | exact rfl | apply And.intro)); exact ⟨1, by omega, rfl, trivial⟩))
      case measure => simp [intOf]
    · rw [show (((1 : Nat) : Int)) = 1 from rfl]
      go_wp2_with fail
      go_ret
      exact ⟨rfl, rfl⟩
theorem split_ab (w : World) (hG : GInt w) : Calls Tryz.prog 111 #[.string ⟨#[97, 46, 98]⟩, .string ⟨#[46]⟩] w fun e w' => e = .returned (.slice (some ⟨w.heap.size, 0, none⟩) 2 2) ∧ w' = w.alloc (.cells #[.string ⟨#[97]⟩, .string ⟨#[98]⟩] 9) := by
  obtain ⟨m, hm⟩ := hG
  have h := Any.strings_Split splitLays string_info ⟨#[97, 46, 98]⟩ ⟨#[46]⟩ m w (by decide) hm (by decide)
  have e1 : Lib.countB ⟨#[97, 46, 98]⟩ ⟨#[46]⟩ = 1 := by decide
  rw [e1] at h
  have e2 : Lib.splitB ⟨#[46]⟩ 0 1 ⟨#[97, 46, 98]⟩ = [⟨#[97]⟩, ⟨#[98]⟩] := by decide
  rw [e2] at h
  exact h
theorem split_c (w : World) (hG : GInt w) : Calls Tryz.prog 111 #[.string ⟨#[99]⟩, .string ⟨#[47]⟩] w fun e w' => e = .returned (.slice (some ⟨w.heap.size, 0, none⟩) 1 1) ∧ w' = w.alloc (.cells #[.string ⟨#[99]⟩] 9) := by
  obtain ⟨m, hm⟩ := hG
  have h := Any.strings_Split splitLays string_info ⟨#[99]⟩ ⟨#[47]⟩ m w (by decide) hm (by decide)
  have e1 : Lib.countB ⟨#[99]⟩ ⟨#[47]⟩ = 0 := by decide
  rw [e1] at h
  have e2 : Lib.splitB ⟨#[47]⟩ 0 0 ⟨#[99]⟩ = [⟨#[99]⟩] := by decide
  rw [e2] at h
  exact h
set_option maxRecDepth 100000 in
set_option maxHeartbeats 2000000 in
theorem host_ab (w : World) (hG : GInt w) : Calls Tryz.prog 83 #[.string ⟨#[97, 46, 98]⟩] w fun e w' => e = .returned (.bool true) ∧ Below w.heap.size w w' := by
  have HS := Lib.hid (split_ab w hG)
  have HB := Lib.hid ((Below.refl w.heap.size w).alloc (Nat.le_refl _) (.cells #[.string ⟨#[97]⟩, .string ⟨#[98]⟩] 9))
  have HK := Lib.hid (Blk.new w 9 [.string ⟨#[97]⟩, .string ⟨#[98]⟩])
  clear hG
  go_enter Tryz.func83, Tryz.ntmps83
  go_wp2_with fail
  refine HS.out.mono ?_
  rintro e w1 ⟨rfl, hw⟩
  rw [← hw] at HB HK
  clear hw HS
  go_wp2_with fail
  go_loopw [11] (fun vi wr => ∃ k : Nat, k ≤ 2 ∧ vi = .int .i64 k ∧ wr = w1) (fun vi _ => 2 - (intOf vi).toNat)
  case atStart => exact ⟨0, by omega, rfl, rfl⟩
  case round =>
    obtain ⟨k, hk, rfl, rfl⟩ := hrel
    have c0 : wr.cell? ⟨w.heap.size, 0, none⟩ = some (.string ⟨#[97]⟩) := HK.out.cell 0
    have c1 : wr.cell? ⟨w.heap.size, 1, none⟩ = some (.string ⟨#[98]⟩) := HK.out.cell 1
    have hk2 : k = 0 ∨ k = 1 ∨ k = 2 := by omega
    rcases hk2 with rfl | rfl | rfl
    · rw [show (((0 : Nat) : Int)) = 0 from rfl]
      go_wp2_with fail
      refine (label_97 _).mono ?_
      rintro e w2 ⟨rfl, hw2⟩
      subst hw2
      go_wp2_with fail
      go_roundw
      case rel => first | exact ⟨1, by omega, rfl, trivial⟩ | (repeat (apply Exists.intro); (refine And.intro ?_ ?_; rotate_left; (repeat' (first | exact rfl | apply And.intro)); exact ⟨1, by omega, rfl, trivial⟩))
      case measure => simp [intOf]
    · rw [show (((1 : Nat) : Int)) = 1 from rfl]
      go_wp2_with fail
      refine (label_98 _).mono ?_
      rintro e w2 ⟨rfl, hw2⟩
      subst hw2
      go_wp2_with fail
      go_roundw
      case rel => first | exact ⟨2, by omega, rfl, trivial⟩ | (repeat (apply Exists.intro); (refine And.intro ?_ ?_; rotate_left; (repeat' (first | exact rfl | apply And.intro)); exact ⟨2, by omega, rfl, trivial⟩))
      case measure => simp [intOf]
    · rw [show (((2 : Nat) : Int)) = 2 from rfl]
      go_wp2_with fail
      go_ret
      exact ⟨rfl, HB.out⟩
set_option maxRecDepth 100000 in
set_option maxHeartbeats 400000 in
theorem indexByte_any (s : ByteArray) (c : Int) (w : World) :
    Calls Tryz.prog 171 #[.string s, .int .u8 c] w fun e w' => e = .returned (.int .i64 (Lib.indexByte s.data.toList c.toNat.toUInt8)) ∧ w = w' := by
  go_enter Tryz.func171, Tryz.ntmps171
  go_wp2
  rw [run_callFunc_extern Tryz.func211 (by kernel_rfl) (by kernel_rfl) (by kernel_rfl) (e := Extern.BytealgIndexByte.indexByte) (by kernel_rfl), Lib.run_indexByteString]
  simp only [Result.andThen]
  rw [Oper.upon_value]
  go_wp2
  go_ret
  exact ⟨rfl, rfl⟩
set_option maxRecDepth 100000 in
set_option maxHeartbeats 2000000 in
theorem rowEnd_nil (wo : ByteArray) (w : World) : Calls Tryz.prog 134 #[.string ⟨#[]⟩, .string wo] w fun e w' => e = .returned (.tuple #[.int .i64 0, .bool true]) ∧ w' = w := by
  go_enter Tryz.func134, Tryz.ntmps134
  go_wp2_with fail
  go_loopw [6] (fun vi wr => vi = .int .i64 0 ∧ wr = w) (fun _ _ => 0)
  case atStart => exact ⟨rfl, rfl⟩
  case round =>
    obtain ⟨rfl, rfl⟩ := hrel
    go_wp2_with fail
    go_ret2
    exact ⟨rfl, rfl⟩
set_option maxRecDepth 100000 in
set_option maxHeartbeats 2000000 in
theorem rowEnd_c (w : World) : Calls Tryz.prog 134 #[.string ⟨#[47, 99]⟩, .string ⟨#[63]⟩] w fun e w' => e = .returned (.tuple #[.int .i64 2, .bool true]) ∧ w' = w := by
  have hc0 : ((⟨#[47, 99]⟩ : ByteArray)[0]'(by decide)).toNat = 47 := rfl
  have hc1 : ((⟨#[47, 99]⟩ : ByteArray)[1]'(by decide)).toNat = 99 := rfl
  go_enter Tryz.func134, Tryz.ntmps134
  go_wp2_with fail
  go_loopw [6] (fun vi wr => ∃ k : Nat, k ≤ 2 ∧ vi = .int .i64 k ∧ wr = w) (fun vi _ => 2 - (intOf vi).toNat)
  case atStart => exact ⟨0, by omega, rfl, rfl⟩
  case round =>
    obtain ⟨k, hk, rfl, rfl⟩ := hrel
    have hk2 : k = 0 ∨ k = 1 ∨ k = 2 := by omega
    rcases hk2 with rfl | rfl | rfl
    · rw [show (((0 : Nat) : Int)) = 0 from rfl]
      go_wp2_with fail
      have h1 := indexByte_any ⟨#[63]⟩ 47 wr
      rw [show Lib.indexByte (⟨#[63]⟩ : ByteArray).data.toList (Int.toNat 47).toUInt8 = -1 by decide] at h1
      refine h1.mono ?_
      clear h1
      rintro e w2 ⟨rfl, hw2⟩
      subst hw2
      go_wp2_with fail
      have h1 := indexByte_any ⟨#[34, 35, 60, 62, 92, 94, 123, 124, 125, 96]⟩ 47 wr
      rw [show Lib.indexByte (⟨#[34, 35, 60, 62, 92, 94, 123, 124, 125, 96]⟩ : ByteArray).data.toList (Int.toNat 47).toUInt8 = -1 by decide] at h1
      refine h1.mono ?_
      clear h1
      rintro e w3 ⟨rfl, hw3⟩
      subst hw3
      go_wp2_with fail
      go_roundw
      case rel => first | exact ⟨1, by omega, rfl, trivial⟩ | (repeat (apply Exists.intro); (refine And.intro ?_ ?_; rotate_left; (repeat' (first | exact rfl | apply And.intro)); exact ⟨1, by omega, rfl, trivial⟩))
      case measure => simp [intOf]
    · rw [show (((1 : Nat) : Int)) = 1 from rfl]
      go_wp2_with fail
      have h1 := indexByte_any ⟨#[63]⟩ 99 wr
      rw [show Lib.indexByte (⟨#[63]⟩ : ByteArray).data.toList (Int.toNat 99).toUInt8 = -1 by decide] at h1
      refine h1.mono ?_
      clear h1
      rintro e w2 ⟨rfl, hw2⟩
      subst hw2
      go_wp2_with fail
      have h1 := indexByte_any ⟨#[34, 35, 60, 62, 92, 94, 123, 124, 125, 96]⟩ 99 wr
      rw [show Lib.indexByte (⟨#[34, 35, 60, 62, 92, 94, 123, 124, 125, 96]⟩ : ByteArray).data.toList (Int.toNat 99).toUInt8 = -1 by decide] at h1
      refine h1.mono ?_
      clear h1
      rintro e w3 ⟨rfl, hw3⟩
      subst hw3
      go_wp2_with fail
      go_roundw
      case rel => first | exact ⟨2, by omega, rfl, trivial⟩ | (repeat (apply Exists.intro); (refine And.intro ?_ ?_; rotate_left; (repeat' (first | exact rfl | apply And.intro)); exact ⟨2, by omega, rfl, trivial⟩))
      case measure => simp [intOf]
    · rw [show (((2 : Nat) : Int)) = 2 from rfl]
      go_wp2_with fail
      go_ret2
      exact ⟨rfl, rfl⟩
set_option maxRecDepth 100000 in
set_option maxHeartbeats 2000000 in
theorem isRow_c (w : World) : Calls Tryz.prog 85 #[.string ⟨#[47, 99]⟩, .string ⟨#[63]⟩] w fun e w' => e = .returned (.bool true) ∧ w' = w := by
  go_enter Tryz.func85, Tryz.ntmps85
  go_wp2_with fail
  refine (rowEnd_c w).mono ?_
  rintro e w1 ⟨rfl, hw⟩
  subst hw
  go_wp2_with fail
  go_ret
  exact ⟨rfl, rfl⟩
set_option maxRecDepth 100000 in
set_option maxHeartbeats 2000000 in
theorem isRow_nil (w : World) : Calls Tryz.prog 85 #[.string ⟨#[]⟩, .string ⟨#[]⟩] w fun e w' => e = .returned (.bool true) ∧ w' = w := by
  go_enter Tryz.func85, Tryz.ntmps85
  go_wp2_with fail
  refine (rowEnd_nil _ w).mono ?_
  rintro e w1 ⟨rfl, hw⟩
  subst hw
  go_wp2_with fail
  go_ret
  exact ⟨rfl, rfl⟩
set_option maxRecDepth 100000 in
set_option maxHeartbeats 2000000 in
theorem behind_c (w : World) : Calls Tryz.prog 135 #[.agg #[.string ⟨#[104, 116, 116, 112]⟩, .string ⟨#[97, 46, 98]⟩, .string ⟨#[]⟩, .string ⟨#[47, 99]⟩, .string ⟨#[]⟩, .bool false, .string ⟨#[]⟩, .bool false]] w fun e w' => e = .returned (.string ⟨#[47, 99]⟩) ∧ Below w.heap.size w w' := by
  have hk := Blk.new w 80 [.string ⟨#[104, 116, 116, 112]⟩, .string ⟨#[97, 46, 98]⟩, .string ⟨#[]⟩, .string ⟨#[47, 99]⟩, .string ⟨#[]⟩, .bool false, .string ⟨#[]⟩, .bool false]
  have HB := Lib.hid ((Below.refl w.heap.size w).alloc (Nat.le_refl _) (.cells #[.string ⟨#[104, 116, 116, 112]⟩, .string ⟨#[97, 46, 98]⟩, .string ⟨#[]⟩, .string ⟨#[47, 99]⟩, .string ⟨#[]⟩, .bool false, .string ⟨#[]⟩, .bool false] 80))
  have a0 : (w.alloc (.cells #[.string ⟨#[104, 116, 116, 112]⟩, .string ⟨#[97, 46, 98]⟩, .string ⟨#[]⟩, .string ⟨#[47, 99]⟩, .string ⟨#[]⟩, .bool false, .string ⟨#[]⟩, .bool false] 80)).cell? ⟨w.heap.size, 0, none⟩ = some (.string ⟨#[104, 116, 116, 112]⟩) := hk.cell 0
  have a1 : (w.alloc (.cells #[.string ⟨#[104, 116, 116, 112]⟩, .string ⟨#[97, 46, 98]⟩, .string ⟨#[]⟩, .string ⟨#[47, 99]⟩, .string ⟨#[]⟩, .bool false, .string ⟨#[]⟩, .bool false] 80)).cell? ⟨w.heap.size, 1, none⟩ = some (.string ⟨#[97, 46, 98]⟩) := hk.cell 1
  have a2 : (w.alloc (.cells #[.string ⟨#[104, 116, 116, 112]⟩, .string ⟨#[97, 46, 98]⟩, .string ⟨#[]⟩, .string ⟨#[47, 99]⟩, .string ⟨#[]⟩, .bool false, .string ⟨#[]⟩, .bool false] 80)).cell? ⟨w.heap.size, 2, none⟩ = some (.string ⟨#[]⟩) := hk.cell 2
  have a3 : (w.alloc (.cells #[.string ⟨#[104, 116, 116, 112]⟩, .string ⟨#[97, 46, 98]⟩, .string ⟨#[]⟩, .string ⟨#[47, 99]⟩, .string ⟨#[]⟩, .bool false, .string ⟨#[]⟩, .bool false] 80)).cell? ⟨w.heap.size, 3, none⟩ = some (.string ⟨#[47, 99]⟩) := hk.cell 3
  have a4 : (w.alloc (.cells #[.string ⟨#[104, 116, 116, 112]⟩, .string ⟨#[97, 46, 98]⟩, .string ⟨#[]⟩, .string ⟨#[47, 99]⟩, .string ⟨#[]⟩, .bool false, .string ⟨#[]⟩, .bool false] 80)).cell? ⟨w.heap.size, 4, none⟩ = some (.string ⟨#[]⟩) := hk.cell 4
  have a5 : (w.alloc (.cells #[.string ⟨#[104, 116, 116, 112]⟩, .string ⟨#[97, 46, 98]⟩, .string ⟨#[]⟩, .string ⟨#[47, 99]⟩, .string ⟨#[]⟩, .bool false, .string ⟨#[]⟩, .bool false] 80)).cell? ⟨w.heap.size, 5, none⟩ = some (.bool false) := hk.cell 5
  have a6 : (w.alloc (.cells #[.string ⟨#[104, 116, 116, 112]⟩, .string ⟨#[97, 46, 98]⟩, .string ⟨#[]⟩, .string ⟨#[47, 99]⟩, .string ⟨#[]⟩, .bool false, .string ⟨#[]⟩, .bool false] 80)).cell? ⟨w.heap.size, 6, none⟩ = some (.string ⟨#[]⟩) := hk.cell 6
  have a7 : (w.alloc (.cells #[.string ⟨#[104, 116, 116, 112]⟩, .string ⟨#[97, 46, 98]⟩, .string ⟨#[]⟩, .string ⟨#[47, 99]⟩, .string ⟨#[]⟩, .bool false, .string ⟨#[]⟩, .bool false] 80)).cell? ⟨w.heap.size, 7, none⟩ = some (.bool false) := hk.cell 7
  clear hk
  go_enter Tryz.func135, Tryz.ntmps135
  go_wp2_with fail
  go_ret
  exact ⟨rfl, HB.out⟩
set_option maxRecDepth 100000 in
set_option maxHeartbeats 2000000 in
theorem write_ab (w : World) : Calls Tryz.prog 86 #[.agg #[.string ⟨#[104, 116, 116, 112]⟩, .string ⟨#[97, 46, 98]⟩, .string ⟨#[]⟩, .string ⟨#[47, 99]⟩, .string ⟨#[]⟩, .bool false, .string ⟨#[]⟩, .bool false]] w fun e w' => e = .returned (.string ⟨#[104, 116, 116, 112, 58, 47, 47, 97, 46, 98, 47, 99]⟩) ∧ Below w.heap.size w w' := by
  have hk := Blk.new w 80 [.string ⟨#[104, 116, 116, 112]⟩, .string ⟨#[97, 46, 98]⟩, .string ⟨#[]⟩, .string ⟨#[47, 99]⟩, .string ⟨#[]⟩, .bool false, .string ⟨#[]⟩, .bool false]
  have HB := Lib.hid ((Below.refl w.heap.size w).alloc (Nat.le_refl _) (.cells #[.string ⟨#[104, 116, 116, 112]⟩, .string ⟨#[97, 46, 98]⟩, .string ⟨#[]⟩, .string ⟨#[47, 99]⟩, .string ⟨#[]⟩, .bool false, .string ⟨#[]⟩, .bool false] 80))
  have a0 : (w.alloc (.cells #[.string ⟨#[104, 116, 116, 112]⟩, .string ⟨#[97, 46, 98]⟩, .string ⟨#[]⟩, .string ⟨#[47, 99]⟩, .string ⟨#[]⟩, .bool false, .string ⟨#[]⟩, .bool false] 80)).cell? ⟨w.heap.size, 0, none⟩ = some (.string ⟨#[104, 116, 116, 112]⟩) := hk.cell 0
  have a1 : (w.alloc (.cells #[.string ⟨#[104, 116, 116, 112]⟩, .string ⟨#[97, 46, 98]⟩, .string ⟨#[]⟩, .string ⟨#[47, 99]⟩, .string ⟨#[]⟩, .bool false, .string ⟨#[]⟩, .bool false] 80)).cell? ⟨w.heap.size, 1, none⟩ = some (.string ⟨#[97, 46, 98]⟩) := hk.cell 1
  have a2 : (w.alloc (.cells #[.string ⟨#[104, 116, 116, 112]⟩, .string ⟨#[97, 46, 98]⟩, .string ⟨#[]⟩, .string ⟨#[47, 99]⟩, .string ⟨#[]⟩, .bool false, .string ⟨#[]⟩, .bool false] 80)).cell? ⟨w.heap.size, 2, none⟩ = some (.string ⟨#[]⟩) := hk.cell 2
  have a3 : (w.alloc (.cells #[.string ⟨#[104, 116, 116, 112]⟩, .string ⟨#[97, 46, 98]⟩, .string ⟨#[]⟩, .string ⟨#[47, 99]⟩, .string ⟨#[]⟩, .bool false, .string ⟨#[]⟩, .bool false] 80)).cell? ⟨w.heap.size, 3, none⟩ = some (.string ⟨#[47, 99]⟩) := hk.cell 3
  have a4 : (w.alloc (.cells #[.string ⟨#[104, 116, 116, 112]⟩, .string ⟨#[97, 46, 98]⟩, .string ⟨#[]⟩, .string ⟨#[47, 99]⟩, .string ⟨#[]⟩, .bool false, .string ⟨#[]⟩, .bool false] 80)).cell? ⟨w.heap.size, 4, none⟩ = some (.string ⟨#[]⟩) := hk.cell 4
  have a5 : (w.alloc (.cells #[.string ⟨#[104, 116, 116, 112]⟩, .string ⟨#[97, 46, 98]⟩, .string ⟨#[]⟩, .string ⟨#[47, 99]⟩, .string ⟨#[]⟩, .bool false, .string ⟨#[]⟩, .bool false] 80)).cell? ⟨w.heap.size, 5, none⟩ = some (.bool false) := hk.cell 5
  have a6 : (w.alloc (.cells #[.string ⟨#[104, 116, 116, 112]⟩, .string ⟨#[97, 46, 98]⟩, .string ⟨#[]⟩, .string ⟨#[47, 99]⟩, .string ⟨#[]⟩, .bool false, .string ⟨#[]⟩, .bool false] 80)).cell? ⟨w.heap.size, 6, none⟩ = some (.string ⟨#[]⟩) := hk.cell 6
  have a7 : (w.alloc (.cells #[.string ⟨#[104, 116, 116, 112]⟩, .string ⟨#[97, 46, 98]⟩, .string ⟨#[]⟩, .string ⟨#[47, 99]⟩, .string ⟨#[]⟩, .bool false, .string ⟨#[]⟩, .bool false] 80)).cell? ⟨w.heap.size, 7, none⟩ = some (.bool false) := hk.cell 7
  clear hk
  go_enter Tryz.func86, Tryz.ntmps86
  go_wp2_with fail
  refine (behind_c _).mono ?_
  rintro e w1 ⟨rfl, hb⟩
  have HB1 := Lib.hid (ext_trans HB.out hb)
  clear hb
  go_wp2_with fail
  go_ret
  exact ⟨rfl, HB1.out⟩
theorem small_http (w : World) : Calls Tryz.prog 82 #[.string ⟨#[104, 116, 116, 112]⟩] w fun e w' => e = .returned (.string ⟨#[104, 116, 116, 112]⟩) ∧ Below w.heap.size w w' :=
  (small_any [104, 116, 116, 112] w (by decide) (by decide)).mono fun e w' h => ⟨h.1.trans rfl, h.2⟩
theorem small_ab (w : World) : Calls Tryz.prog 82 #[.string ⟨#[97, 46, 98]⟩] w fun e w' => e = .returned (.string ⟨#[97, 46, 98]⟩) ∧ Below w.heap.size w w' :=
  (small_any [97, 46, 98] w (by decide) (by decide)).mono fun e w' h => ⟨h.1.trans rfl, h.2⟩
set_option maxRecDepth 100000 in
set_option maxHeartbeats 2000000 in
theorem check_ab (w : World) (hG : GInt w) : Calls Tryz.prog 53 #[.agg #[.string ⟨#[104, 116, 116, 112]⟩, .string ⟨#[97, 46, 98]⟩, .string ⟨#[]⟩, .string ⟨#[47, 99]⟩, .string ⟨#[]⟩, .bool false, .string ⟨#[]⟩, .bool false]] w fun e w' => e = .returned (.int .i64 0) ∧ Below w.heap.size w w' := by
  have hk := Blk.new w 80 [.string ⟨#[104, 116, 116, 112]⟩, .string ⟨#[97, 46, 98]⟩, .string ⟨#[]⟩, .string ⟨#[47, 99]⟩, .string ⟨#[]⟩, .bool false, .string ⟨#[]⟩, .bool false]
  have hab := (Below.refl w.heap.size w).alloc (Nat.le_refl _) (.cells #[.string ⟨#[104, 116, 116, 112]⟩, .string ⟨#[97, 46, 98]⟩, .string ⟨#[]⟩, .string ⟨#[47, 99]⟩, .string ⟨#[]⟩, .bool false, .string ⟨#[]⟩, .bool false] 80)
  have HK0 : Hid (Blk (w.alloc (.cells #[.string ⟨#[104, 116, 116, 112]⟩, .string ⟨#[97, 46, 98]⟩, .string ⟨#[]⟩, .string ⟨#[47, 99]⟩, .string ⟨#[]⟩, .bool false, .string ⟨#[]⟩, .bool false] 80)) w.heap.size 80 [.string ⟨#[104, 116, 116, 112]⟩, .string ⟨#[97, 46, 98]⟩, .string ⟨#[]⟩, .string ⟨#[47, 99]⟩, .string ⟨#[]⟩, .bool false, .string ⟨#[]⟩, .bool false]) := Lib.hid hk
  have HB0 := Lib.hid hab
  have HG0 := Lib.hid (hG.ext hab)
  have a0 : (w.alloc (.cells #[.string ⟨#[104, 116, 116, 112]⟩, .string ⟨#[97, 46, 98]⟩, .string ⟨#[]⟩, .string ⟨#[47, 99]⟩, .string ⟨#[]⟩, .bool false, .string ⟨#[]⟩, .bool false] 80)).cell? ⟨w.heap.size, 0, none⟩ = some (.string ⟨#[104, 116, 116, 112]⟩) := HK0.out.cell 0
  have a1 : (w.alloc (.cells #[.string ⟨#[104, 116, 116, 112]⟩, .string ⟨#[97, 46, 98]⟩, .string ⟨#[]⟩, .string ⟨#[47, 99]⟩, .string ⟨#[]⟩, .bool false, .string ⟨#[]⟩, .bool false] 80)).cell? ⟨w.heap.size, 1, none⟩ = some (.string ⟨#[97, 46, 98]⟩) := HK0.out.cell 1
  have a2 : (w.alloc (.cells #[.string ⟨#[104, 116, 116, 112]⟩, .string ⟨#[97, 46, 98]⟩, .string ⟨#[]⟩, .string ⟨#[47, 99]⟩, .string ⟨#[]⟩, .bool false, .string ⟨#[]⟩, .bool false] 80)).cell? ⟨w.heap.size, 2, none⟩ = some (.string ⟨#[]⟩) := HK0.out.cell 2
  have a3 : (w.alloc (.cells #[.string ⟨#[104, 116, 116, 112]⟩, .string ⟨#[97, 46, 98]⟩, .string ⟨#[]⟩, .string ⟨#[47, 99]⟩, .string ⟨#[]⟩, .bool false, .string ⟨#[]⟩, .bool false] 80)).cell? ⟨w.heap.size, 3, none⟩ = some (.string ⟨#[47, 99]⟩) := HK0.out.cell 3
  have a4 : (w.alloc (.cells #[.string ⟨#[104, 116, 116, 112]⟩, .string ⟨#[97, 46, 98]⟩, .string ⟨#[]⟩, .string ⟨#[47, 99]⟩, .string ⟨#[]⟩, .bool false, .string ⟨#[]⟩, .bool false] 80)).cell? ⟨w.heap.size, 4, none⟩ = some (.string ⟨#[]⟩) := HK0.out.cell 4
  have a5 : (w.alloc (.cells #[.string ⟨#[104, 116, 116, 112]⟩, .string ⟨#[97, 46, 98]⟩, .string ⟨#[]⟩, .string ⟨#[47, 99]⟩, .string ⟨#[]⟩, .bool false, .string ⟨#[]⟩, .bool false] 80)).cell? ⟨w.heap.size, 5, none⟩ = some (.bool false) := HK0.out.cell 5
  have a6 : (w.alloc (.cells #[.string ⟨#[104, 116, 116, 112]⟩, .string ⟨#[97, 46, 98]⟩, .string ⟨#[]⟩, .string ⟨#[47, 99]⟩, .string ⟨#[]⟩, .bool false, .string ⟨#[]⟩, .bool false] 80)).cell? ⟨w.heap.size, 6, none⟩ = some (.string ⟨#[]⟩) := HK0.out.cell 6
  have a7 : (w.alloc (.cells #[.string ⟨#[104, 116, 116, 112]⟩, .string ⟨#[97, 46, 98]⟩, .string ⟨#[]⟩, .string ⟨#[47, 99]⟩, .string ⟨#[]⟩, .bool false, .string ⟨#[]⟩, .bool false] 80)).cell? ⟨w.heap.size, 7, none⟩ = some (.bool false) := HK0.out.cell 7
  clear hk hab hG
  go_enter Tryz.func53, Tryz.ntmps53
  go_wp2_with fail
  refine (small_http _).mono ?_
  rintro e w1 ⟨rfl, hb⟩
  have HB1 := Lib.hid (ext_trans HB0.out hb)
  have HK1 := Lib.hid (HK0.out.same (same_below hb) HK0.out.lt)
  have HG1 := Lib.hid (HG0.out.ext hb)
  clear hb HB0 HK0 HG0 a0 a1 a2 a3 a4 a5 a6 a7
  have a0 : w1.cell? ⟨w.heap.size, 0, none⟩ = some (.string ⟨#[104, 116, 116, 112]⟩) := HK1.out.cell 0
  have a1 : w1.cell? ⟨w.heap.size, 1, none⟩ = some (.string ⟨#[97, 46, 98]⟩) := HK1.out.cell 1
  have a2 : w1.cell? ⟨w.heap.size, 2, none⟩ = some (.string ⟨#[]⟩) := HK1.out.cell 2
  have a3 : w1.cell? ⟨w.heap.size, 3, none⟩ = some (.string ⟨#[47, 99]⟩) := HK1.out.cell 3
  have a4 : w1.cell? ⟨w.heap.size, 4, none⟩ = some (.string ⟨#[]⟩) := HK1.out.cell 4
  have a5 : w1.cell? ⟨w.heap.size, 5, none⟩ = some (.bool false) := HK1.out.cell 5
  have a6 : w1.cell? ⟨w.heap.size, 6, none⟩ = some (.string ⟨#[]⟩) := HK1.out.cell 6
  have a7 : w1.cell? ⟨w.heap.size, 7, none⟩ = some (.bool false) := HK1.out.cell 7
  go_wp2_with fail
  refine (host_ab _ HG1.out).mono ?_
  rintro e w2 ⟨rfl, hb⟩
  have HB2 := Lib.hid (ext_trans HB1.out hb)
  have HK2 := Lib.hid (HK1.out.same (same_below hb) HK1.out.lt)
  have HG2 := Lib.hid (HG1.out.ext hb)
  clear hb HB1 HK1 HG1 a0 a1 a2 a3 a4 a5 a6 a7
  have a0 : w2.cell? ⟨w.heap.size, 0, none⟩ = some (.string ⟨#[104, 116, 116, 112]⟩) := HK2.out.cell 0
  have a1 : w2.cell? ⟨w.heap.size, 1, none⟩ = some (.string ⟨#[97, 46, 98]⟩) := HK2.out.cell 1
  have a2 : w2.cell? ⟨w.heap.size, 2, none⟩ = some (.string ⟨#[]⟩) := HK2.out.cell 2
  have a3 : w2.cell? ⟨w.heap.size, 3, none⟩ = some (.string ⟨#[47, 99]⟩) := HK2.out.cell 3
  have a4 : w2.cell? ⟨w.heap.size, 4, none⟩ = some (.string ⟨#[]⟩) := HK2.out.cell 4
  have a5 : w2.cell? ⟨w.heap.size, 5, none⟩ = some (.bool false) := HK2.out.cell 5
  have a6 : w2.cell? ⟨w.heap.size, 6, none⟩ = some (.string ⟨#[]⟩) := HK2.out.cell 6
  have a7 : w2.cell? ⟨w.heap.size, 7, none⟩ = some (.bool false) := HK2.out.cell 7
  go_wp2_with fail
  refine (isRow_c _).mono ?_
  rintro e wq ⟨rfl, hw⟩
  subst hw
  go_wp2_with fail
  refine (isRow_nil _).mono ?_
  rintro e wq ⟨rfl, hw⟩
  subst hw
  go_wp2_with fail
  refine (isRow_nil _).mono ?_
  rintro e wq ⟨rfl, hw⟩
  subst hw
  go_wp2_with fail
  refine (write_ab _).mono ?_
  rintro e w3 ⟨rfl, hb⟩
  have HB3 := Lib.hid (ext_trans HB2.out hb)
  have HK3 := Lib.hid (HK2.out.same (same_below hb) HK2.out.lt)
  have HG3 := Lib.hid (HG2.out.ext hb)
  clear hb HB2 HK2 HG2 a0 a1 a2 a3 a4 a5 a6 a7
  have a0 : w3.cell? ⟨w.heap.size, 0, none⟩ = some (.string ⟨#[104, 116, 116, 112]⟩) := HK3.out.cell 0
  have a1 : w3.cell? ⟨w.heap.size, 1, none⟩ = some (.string ⟨#[97, 46, 98]⟩) := HK3.out.cell 1
  have a2 : w3.cell? ⟨w.heap.size, 2, none⟩ = some (.string ⟨#[]⟩) := HK3.out.cell 2
  have a3 : w3.cell? ⟨w.heap.size, 3, none⟩ = some (.string ⟨#[47, 99]⟩) := HK3.out.cell 3
  have a4 : w3.cell? ⟨w.heap.size, 4, none⟩ = some (.string ⟨#[]⟩) := HK3.out.cell 4
  have a5 : w3.cell? ⟨w.heap.size, 5, none⟩ = some (.bool false) := HK3.out.cell 5
  have a6 : w3.cell? ⟨w.heap.size, 6, none⟩ = some (.string ⟨#[]⟩) := HK3.out.cell 6
  have a7 : w3.cell? ⟨w.heap.size, 7, none⟩ = some (.bool false) := HK3.out.cell 7
  go_wp2_with fail
  go_ret
  exact ⟨rfl, HB3.out⟩
set_option maxRecDepth 100000 in
set_option maxHeartbeats 2000000 in
theorem same_nil (w : World) : Calls Tryz.prog 54 #[.slice none 0 0] w fun e w' => e = .returned (.int .i64 0) ∧ w' = w := by
  go_enter Tryz.func54, Tryz.ntmps54
  go_wp2_with fail
  go_loopw [11] (fun vi wr => vi = .int .i64 0 ∧ wr = w) (fun _ _ => 0)
  case atStart => exact ⟨rfl, rfl⟩
  case round =>
    obtain ⟨rfl, rfl⟩ := hrel
    go_wp2_with fail
    go_ret
    exact ⟨rfl, rfl⟩
end Go.Proofs.YtnkdcmibafjplaaGreatDoor
namespace Go.Proofs.YtnkdcmibafjplaaGreatDoor
open Go.RowKit Go.Shelf
set_option linter.unusedVariables false
set_option linter.unusedSimpArgs false

theorem Blk.alloc_a {w : World} {g : Nat} {t : TypeId} {cs : List Value} (h : Blk w g t cs) (o : Obj) : Blk (w.alloc o) g t cs := (Below.heap_alloc w o g h.lt).trans h
theorem Blk.set_a {w : World} {g g' i : Nat} {t : TypeId} {cs : List Value} (h : Blk w g t cs) (hne : g ≠ g') (v : Value) : Blk (w.setCell ⟨g', i, none⟩ v) g t cs := (Below.heap_setCell _ _ _ g hne).trans h
def addrJoinLays_ren : Go.Shelf.Ren := ⟨fun | 156 => 26 | 165 => 65 | 166 => 58 | 169 => 59 | 240 => 95 | 241 => 102 | 276 => 148 | 277 => 153 | n => n, fun | 0 => 0 | 3 => 3 | 4 => 4 | 5 => 5 | 9 => 9 | 20 => 20 | 31 => 22 | 37 => 33 | 70 => 136 | 72 => 138 | 75 => 143 | 76 => 144 | 80 => 146 | 127 => 176 | 164 => 215 | n => n, fun | n => n⟩
theorem addrJoinLays : Lays.n156 Tryz.prog addrJoinLays_ren := {
  mixed := by kernel_rfl,
  f156 := Tryz.func26.trans (congrArg some (by kernel_rfl)),
  f165 := Tryz.func65.trans (congrArg some (by kernel_rfl)),
  f166 := Tryz.func58.trans (congrArg some (by kernel_rfl)),
  f169 := Tryz.func59.trans (congrArg some (by kernel_rfl)),
  f240 := Tryz.func95.trans (congrArg some (by kernel_rfl)),
  f241 := Tryz.func102.trans (congrArg some (by kernel_rfl)),
  f276 := Tryz.func148.trans (congrArg some (by kernel_rfl)),
  f277 := Tryz.func153.trans (congrArg some (by kernel_rfl)),
  t0 := Tryz.underlying0,
  a0 := Tryz.isAgg0,
  z0 := Tryz.sizeOf0,
  v0 := Tryz.zeroValue0,
  t3 := Tryz.underlying3,
  a3 := Tryz.isAgg3,
  z3 := Tryz.sizeOf3,
  v3 := Tryz.zeroValue3,
  t4 := Tryz.underlying4,
  a4 := Tryz.isAgg4,
  z4 := Tryz.sizeOf4,
  v4 := Tryz.zeroValue4,
  t9 := Tryz.underlying9,
  a9 := Tryz.isAgg9,
  z9 := Tryz.sizeOf9,
  v9 := Tryz.zeroValue9,
  t20 := Tryz.underlying20,
  a20 := Tryz.isAgg20,
  z20 := Tryz.sizeOf20,
  v20 := Tryz.zeroValue20,
  t31 := Tryz.underlying22,
  a31 := Tryz.isAgg22,
  z31 := Tryz.sizeOf22,
  v31 := Tryz.zeroValue22,
  t37 := Tryz.underlying33,
  a37 := Tryz.isAgg33,
  z37 := Tryz.sizeOf33,
  v37 := Tryz.zeroValue33,
  t70 := Tryz.underlying136,
  a70 := Tryz.isAgg136,
  z70 := Tryz.sizeOf136,
  v70 := Tryz.zeroValue136,
  t72 := Tryz.underlying138,
  a72 := Tryz.isAgg138,
  z72 := Tryz.sizeOf138,
  v72 := Tryz.zeroValue138,
  t75 := Tryz.underlying143,
  a75 := Tryz.isAgg143,
  z75 := Tryz.sizeOf143,
  v75 := Tryz.zeroValue143,
  t76 := Tryz.underlying144,
  a76 := Tryz.isAgg144,
  z76 := Tryz.sizeOf144,
  v76 := Tryz.zeroValue144,
  t127 := Tryz.underlying176,
  a127 := Tryz.isAgg176,
  z127 := Tryz.sizeOf176,
  v127 := Tryz.zeroValue176,
  t164 := Tryz.underlying215,
  a164 := Tryz.isAgg215,
  z164 := Tryz.sizeOf215,
  v164 := Tryz.zeroValue215 }
theorem addrJoinExtra : Builder.Extra Tryz.prog addrJoinLays_ren := {
  sizeBuilder := by kernel_rfl,
  liesBuilder := by kernel_rfl,
  t5 := Tryz.underlying5,
  a5 := Tryz.isAgg5,
  z5 := Tryz.sizeOf5,
  v5 := Tryz.zeroValue5,
  infoByte := by kernel_rfl,
  cellsByte := by kernel_rfl,
  sizeByte := by kernel_rfl,
  neB5 := by decide }
theorem join_c (kb c : Nat) (w : World) (hc : ∀ j, j < 1 → w.cell? ⟨kb, j, none⟩ = ([.string ⟨#[99]⟩] : List Value)[j]?) (hkb : kb < w.heap.size) (hcap : 1 ≤ c) :
    Calls Tryz.prog 26 #[.slice (some ⟨kb, 0, none⟩) 1 c, .string ⟨#[47]⟩] w fun e w' => e = .returned (.string ⟨#[99]⟩) ∧ Below w.heap.size w w' := by
  have h := Any.strings_Join addrJoinLays addrJoinExtra kb 0 c ([⟨#[99]⟩] : List ByteArray) ⟨#[47]⟩ w (fun j x hx => by
    obtain ⟨hj, hx⟩ := List.getElem?_eq_some_iff.1 hx
    have hj : j < 1 := hj
    rw [Nat.zero_add, hc j hj]
    have hj2 : j = 0 := by omega
    rcases hj2 with rfl <;> (subst hx; rfl)) hkb (by decide) hcap (by decide)
  exact h.mono fun e w' hh => ⟨hh.1.trans rfl, hh.2⟩
theorem join_ba (kb c : Nat) (w : World) (hc : ∀ j, j < 2 → w.cell? ⟨kb, j, none⟩ = ([.string ⟨#[98]⟩, .string ⟨#[97]⟩] : List Value)[j]?) (hkb : kb < w.heap.size) (hcap : 2 ≤ c) :
    Calls Tryz.prog 26 #[.slice (some ⟨kb, 0, none⟩) 2 c, .string ⟨#[44]⟩] w fun e w' => e = .returned (.string ⟨#[98, 44, 97]⟩) ∧ Below w.heap.size w w' := by
  have h := Any.strings_Join addrJoinLays addrJoinExtra kb 0 c ([⟨#[98]⟩, ⟨#[97]⟩] : List ByteArray) ⟨#[44]⟩ w (fun j x hx => by
    obtain ⟨hj, hx⟩ := List.getElem?_eq_some_iff.1 hx
    have hj : j < 2 := hj
    rw [Nat.zero_add, hc j hj]
    have hj2 : j = 0 ∨ j = 1 := by omega
    rcases hj2 with rfl | rfl <;> (subst hx; rfl)) hkb (by decide) hcap (by decide)
  exact h.mono fun e w' hh => ⟨hh.1.trans rfl, hh.2⟩
set_option maxRecDepth 100000 in
set_option maxHeartbeats 2000000 in
theorem trimLeft_nil (w : World) : Calls Tryz.prog 138 #[.string ⟨#[]⟩, .string ⟨#[48]⟩] w fun e w' => e = .returned (.string ⟨#[]⟩) ∧ w' = w := by
  go_enter Tryz.func138, Tryz.ntmps138
  go_wp2_with fail
  go_ret
  exact ⟨rfl, rfl⟩
set_option maxRecDepth 100000 in
set_option maxHeartbeats 2000000 in
theorem normalRow_nil (w : World) : Calls Tryz.prog 139 #[.string ⟨#[]⟩] w fun e w' => e = .returned (.string ⟨#[]⟩) ∧ Below w.heap.size w w' := by
  have hcv := conv_bytes (P := Tryz.prog) 33 5 9 Tryz.underlying33 Tryz.underlying5 Tryz.underlying9 (Rp.sl_nil (R := Rp.u8) w (fun _ => True))
  go_enter Tryz.func139, Tryz.ntmps139
  go_wp2_with fail
  go_loopw [3, 4] (fun vo vi wr => vo = .slice none 0 0 ∧ vi = .int .i64 0 ∧ wr = w) (fun _ _ _ => 0)
  case atStart => exact ⟨rfl, rfl, rfl⟩
  case round =>
    obtain ⟨rfl, rfl, rfl⟩ := hrel
    go_wp2_with fail
    go_ret
    exact ⟨rfl, Below.refl _ _⟩
theorem u8infoA : (Tryz.prog.info? 5).map (fun i => (i.zero, i.size, i.bytes)) = some (some (.int .u8 0), 1, 1) := by kernel_rfl
set_option maxRecDepth 100000 in
set_option maxHeartbeats 2000000 in
theorem normalRow_c (w : World) : Calls Tryz.prog 139 #[.string ⟨#[47, 99]⟩] w fun e w' => e = .returned (.string ⟨#[47, 99]⟩) ∧ Below w.heap.size w w' := by
  have hc0 : ((⟨#[47, 99]⟩ : ByteArray)[0]'(by decide)).toNat = 47 := rfl
  have hc1 : ((⟨#[47, 99]⟩ : ByteArray)[1]'(by decide)).toNat = 99 := rfl
  go_enter Tryz.func139, Tryz.ntmps139
  go_wp2_with fail
  go_loopw [3, 4] (fun vo vi wr => ∃ k : Nat, k ≤ 2 ∧ vi = .int .i64 k ∧ Hid (wr.ownsRow w.heap.size 5 1 vo k (([.int .u8 47, .int .u8 99] : List Value).take k)) ∧ Hid (Below w.heap.size w wr)) (fun _ vi _ => 2 - (intOf vi).toNat)
  case atStart => exact ⟨0, by omega, rfl, World.ownsRow_nil _ _ _ _, Below.refl _ _⟩
  case round =>
    obtain ⟨k, hk, rfl, HO, HB⟩ := hrel
    have hk2 : k = 0 ∨ k = 1 ∨ k = 2 := by omega
    rcases hk2 with rfl | rfl | rfl
    · rw [show (((0 : Nat) : Int)) = 0 from rfl]
      obtain ⟨Ao, co, hvo, hco1, hco2, _⟩ := own_form HO.out
      subst hvo
      go_wp2_with (at_builtin; go_must (refine app_new (w := wr) rfl (.tmp 16) (.tmp 20) 33 rfl 5 (.int .u8 0) 1 1 Tryz.underlying33 u8infoA rfl (by decide) (m := 1) [.int .u8 47] HO.out HB.out.size rfl rfl rfl (by decide) (by simp [Value.oneCell']) (by unfold maxLen; omega) (by omega) ?_); intro g8 c8 w8 HO8 HG8 HE8 HL8)
      have HB8 := Lib.hid (HE8.out _ HB.out)
      go_roundw
      case rel => first | exact ⟨1, by omega, rfl, HO8, HB8⟩ | (repeat (apply Exists.intro); (refine And.intro ?_ ?_; rotate_left; (repeat' (first | exact rfl | apply And.intro)); exact ⟨1, by omega, rfl, HO8, HB8⟩))
      case measure => simp [intOf]
    · rw [show (((1 : Nat) : Int)) = 1 from rfl]
      obtain ⟨Ao, co, hvo, hco1, hco2, _⟩ := own_form HO.out
      subst hvo
      go_wp2_with (at_builtin; go_must (refine app_new (w := wr) rfl (.tmp 16) (.tmp 20) 33 rfl 5 (.int .u8 0) 1 1 Tryz.underlying33 u8infoA rfl (by decide) (m := 1) [.int .u8 99] HO.out HB.out.size rfl rfl rfl (by decide) (by simp [Value.oneCell']) (by unfold maxLen; omega) (by omega) ?_); intro g8 c8 w8 HO8 HG8 HE8 HL8)
      have HB8 := Lib.hid (HE8.out _ HB.out)
      go_roundw
      case rel => first | exact ⟨2, by omega, rfl, HO8, HB8⟩ | (repeat (apply Exists.intro); (refine And.intro ?_ ?_; rotate_left; (repeat' (first | exact rfl | apply And.intro)); exact ⟨2, by omega, rfl, HO8, HB8⟩))
      case measure => simp [intOf]
    · rw [show (((2 : Nat) : Int)) = 2 from rfl]
      obtain ⟨Ao, co, hvo, hco1, hco2, _⟩ := own_form HO.out
      subst hvo
      have hcv := conv_bytes (P := Tryz.prog) 33 5 9 Tryz.underlying33 Tryz.underlying5 Tryz.underlying9 (Rp.u8_own (l := [47, 99]) HO.out (fun g hg => (HO.out.lt g hg).2))
      go_wp2_with fail
      go_ret
      exact ⟨rfl, HB.out⟩
set_option maxRecDepth 100000 in
set_option maxHeartbeats 2000000 in
theorem undot_c (w : World) (hG : GInt w) : Calls Tryz.prog 140 #[.string ⟨#[47, 99]⟩] w fun e w' => e = .returned (.string ⟨#[47, 99]⟩) ∧ Below w.heap.size w w' := by
  have HS := Lib.hid (split_c w hG)
  have HB := Lib.hid ((Below.refl w.heap.size w).alloc (Nat.le_refl _) (.cells #[.string ⟨#[99]⟩] 9))
  have HK := Lib.hid (Blk.new w 9 [.string ⟨#[99]⟩])
  clear hG
  go_enter Tryz.func140, Tryz.ntmps140
  go_wp2_with fail
  refine HS.out.mono ?_
  rintro e w1 ⟨rfl, hw⟩
  rw [← hw] at HB HK
  clear hw HS
  go_wp2_with fail
  go_loopw [4, 14] (fun vo vi wr => ∃ k : Nat, k ≤ 1 ∧ vi = .int .i64 k ∧ Hid (wr.ownsRow w1.heap.size 9 1 vo k (([.string ⟨#[99]⟩] : List Value).take k)) ∧ Hid (Below w1.heap.size w1 wr)) (fun _ vi _ => 1 - (intOf vi).toNat)
  case atStart => exact ⟨0, by omega, rfl, World.ownsRow_nil _ _ _ _, Below.refl _ _⟩
  case round =>
    obtain ⟨k, hk, rfl, HO, HBr⟩ := hrel
    have HKr := Lib.hid (HK.out.same (same_below HBr.out) HK.out.lt)
    obtain ⟨Ao, co, hvo, hco1, hco2, _⟩ := own_form HO.out
    subst hvo
    have hk2 : k = 0 ∨ k = 1 := by omega
    rcases hk2 with rfl | rfl
    · rw [show (((0 : Nat) : Int)) = 0 from rfl]
      have c0 : wr.cell? ⟨w.heap.size, 0, none⟩ = some (.string ⟨#[99]⟩) := HKr.out.cell 0
      go_wp2_with (at_builtin; refine app_str (b := ⟨#[99]⟩) rfl (.tmp 31) (.tmp 33) rfl HO.out HBr.out.size rfl rfl (by omega) ?_; intro g1 cc1 w9 HO9 HG9 HB9 HL9)
      have HB10 := Lib.hid (HB9.out _ HBr.out)
      go_roundw
      case rel => first | exact ⟨1, by omega, rfl, HO9, HB10⟩ | (repeat (apply Exists.intro); (refine And.intro ?_ ?_; rotate_left; (repeat' (first | exact rfl | apply And.intro)); exact ⟨1, by omega, rfl, HO9, HB10⟩))
      case measure => simp [intOf]
    · rw [show (((1 : Nat) : Int)) = 1 from rfl]
      rcases HO.out.2 with ⟨_, h0⟩ | ⟨g, cap, cur, hv, _, hh, hcc, hm, hs, ht⟩
      · exact absurd h0 (by decide)
      · cases hv
        have HJ := Lib.hid (join_c g co wr (fun j hj => by rw [HO.out.cellAt j (by omega)]; rfl) (Array.getElem?_eq_some_iff.1 hh).1 hcc)
        clear hh hcc hm hs ht
        go_wp2_with fail
        refine HJ.out.mono ?_
        rintro e w9 ⟨rfl, hb9⟩
        have HB9 := Lib.hid (ext_trans HB.out (ext_trans HBr.out hb9))
        clear hb9 HJ
        go_wp2_with fail
        go_ret
        exact ⟨rfl, HB9.out⟩
theorem heldMonoA {P : Program} {ops : Array Oper} {Q : Exit → Act → World → Prop} {md : Region.Mode} {S S' : World → Prop} (h : ∀ w, S' w → S w) : ∀ (fuel : Nat) (listed : Array Bool) (a : Act) (w : World), wpAnyH P md ops Q S' fuel listed a w → wpAnyH P md ops Q S fuel listed a w
  | 0, _, _, _, h0 => h0
  | fuel + 1, _, _, _, h0 => ⟨h0.1, fun i hi => wpOp_mono (fun a' w' h' => ⟨h w' h'.1, heldMonoA h fuel _ a' w' h'.2⟩) (h0.2 i hi)⟩
theorem addr_info : (Tryz.prog.info? 80).map (·.size) = some 8 := by kernel_rfl
set_option maxRecDepth 100000 in
set_option maxHeartbeats 2000000 in
theorem normal_ab (w : World) (hG : GInt w) : Calls Tryz.prog 89 #[.agg #[.string ⟨#[104, 116, 116, 112]⟩, .string ⟨#[97, 46, 98]⟩, .string ⟨#[]⟩, .string ⟨#[47, 99]⟩, .string ⟨#[]⟩, .bool false, .string ⟨#[]⟩, .bool false]] w fun e w' => e = .returned (.agg #[.string ⟨#[104, 116, 116, 112]⟩, .string ⟨#[97, 46, 98]⟩, .string ⟨#[]⟩, .string ⟨#[47, 99]⟩, .string ⟨#[]⟩, .bool false, .string ⟨#[]⟩, .bool false]) ∧ Below w.heap.size w w' := by
  have hk := Blk.new w 80 [.string ⟨#[104, 116, 116, 112]⟩, .string ⟨#[97, 46, 98]⟩, .string ⟨#[]⟩, .string ⟨#[47, 99]⟩, .string ⟨#[]⟩, .bool false, .string ⟨#[]⟩, .bool false]
  have hab := (Below.refl w.heap.size w).alloc (Nat.le_refl _) (.cells #[.string ⟨#[104, 116, 116, 112]⟩, .string ⟨#[97, 46, 98]⟩, .string ⟨#[]⟩, .string ⟨#[47, 99]⟩, .string ⟨#[]⟩, .bool false, .string ⟨#[]⟩, .bool false] 80)
  have hz : (w.alloc (.cells #[.string ⟨#[104, 116, 116, 112]⟩, .string ⟨#[97, 46, 98]⟩, .string ⟨#[]⟩, .string ⟨#[47, 99]⟩, .string ⟨#[]⟩, .bool false, .string ⟨#[]⟩, .bool false] 80)).heap.size = w.heap.size + 1 := by simp
  have hk2 := Blk.new (w.alloc (.cells #[.string ⟨#[104, 116, 116, 112]⟩, .string ⟨#[97, 46, 98]⟩, .string ⟨#[]⟩, .string ⟨#[47, 99]⟩, .string ⟨#[]⟩, .bool false, .string ⟨#[]⟩, .bool false] 80)) 80 [.string ⟨#[]⟩, .string ⟨#[]⟩, .string ⟨#[]⟩, .string ⟨#[]⟩, .string ⟨#[]⟩, .bool false, .string ⟨#[]⟩, .bool false]
  rw [hz] at hk2
  have HKd : Hid (Blk ((w.alloc (.cells #[.string ⟨#[104, 116, 116, 112]⟩, .string ⟨#[97, 46, 98]⟩, .string ⟨#[]⟩, .string ⟨#[47, 99]⟩, .string ⟨#[]⟩, .bool false, .string ⟨#[]⟩, .bool false] 80)).alloc (.cells #[.string ⟨#[]⟩, .string ⟨#[]⟩, .string ⟨#[]⟩, .string ⟨#[]⟩, .string ⟨#[]⟩, .bool false, .string ⟨#[]⟩, .bool false] 80)) w.heap.size 80 [.string ⟨#[104, 116, 116, 112]⟩, .string ⟨#[97, 46, 98]⟩, .string ⟨#[]⟩, .string ⟨#[47, 99]⟩, .string ⟨#[]⟩, .bool false, .string ⟨#[]⟩, .bool false]) := Lib.hid (hk.alloc_a _)
  have HKr : Hid (Blk ((w.alloc (.cells #[.string ⟨#[104, 116, 116, 112]⟩, .string ⟨#[97, 46, 98]⟩, .string ⟨#[]⟩, .string ⟨#[47, 99]⟩, .string ⟨#[]⟩, .bool false, .string ⟨#[]⟩, .bool false] 80)).alloc (.cells #[.string ⟨#[]⟩, .string ⟨#[]⟩, .string ⟨#[]⟩, .string ⟨#[]⟩, .string ⟨#[]⟩, .bool false, .string ⟨#[]⟩, .bool false] 80)) (w.heap.size + 1) 80 [.string ⟨#[]⟩, .string ⟨#[]⟩, .string ⟨#[]⟩, .string ⟨#[]⟩, .string ⟨#[]⟩, .bool false, .string ⟨#[]⟩, .bool false]) := Lib.hid hk2
  have HB0 := Lib.hid (hab.alloc (by simp) (.cells #[.string ⟨#[]⟩, .string ⟨#[]⟩, .string ⟨#[]⟩, .string ⟨#[]⟩, .string ⟨#[]⟩, .bool false, .string ⟨#[]⟩, .bool false] 80))
  have HG0 := Lib.hid (hG.ext HB0.out)
  have HGW := Lib.hid hG
  clear hk hab hk2 hG hz
  go_enter Tryz.func89, Tryz.ntmps89
  go_wp2_with fail
  generalize (w.alloc (.cells #[.string ⟨#[104, 116, 116, 112]⟩, .string ⟨#[97, 46, 98]⟩, .string ⟨#[]⟩, .string ⟨#[47, 99]⟩, .string ⟨#[]⟩, .bool false, .string ⟨#[]⟩, .bool false] 80)).alloc (.cells #[.string ⟨#[]⟩, .string ⟨#[]⟩, .string ⟨#[]⟩, .string ⟨#[]⟩, .string ⟨#[]⟩, .bool false, .string ⟨#[]⟩, .bool false] 80) = wD at *
  refine wp_region_held_drew (S := fun w' => Below wD.heap.size wD w') (by kernel_rfl) (Below.drew (Below.refl _ _)) (fun hHeld0 => ?_)
  obtain ⟨wq, hwq⟩ : ∃ wq, wq = World.drew wD := ⟨_, rfl⟩
  have hbq : Below wD.heap.size wD wq := by rw [hwq]; exact Below.drew (Below.refl _ _)
  have HBQ := Lib.hid (ext_trans HB0.out hbq)
  have HGQ := Lib.hid (HG0.out.ext hbq)
  have HDQ := Lib.hid (HKd.out.same (same_below hbq) HKd.out.lt)
  have HRQ := Lib.hid (HKr.out.same (same_below hbq) HKr.out.lt)
  rw [← hwq] at hHeld0 ⊢
  refine heldMonoA (S' := fun w' => Below wq.heap.size wq w') (fun w' h => ext_trans hbq h) _ _ _ _ ?_
  have hHeld : Below wq.heap.size wq wq := Below.refl _ _
  clear hHeld0 hbq hwq HKd HKr HB0 HG0
  obtain ⟨wsz, hws⟩ : ∃ b, b = w.heap.size := ⟨_, rfl⟩
  rw [← hws] at HDQ HRQ ⊢
  have HWS := Lib.hid hws
  clear hws
  refine wpAnyH_take (i := 0) (v := ?_) rfl (by kernel_rfl) (by kernel_rfl) (by kernel_rfl) (fun _ _ _ h => h) (Or.inl ⟨by rfl, ?_⟩) (by assumption) ?_
  rotate_left
  · (intro w hSw; go_simp; try with_reducible rfl)
  try simp only [List.getElem_toArray, List.getElem_cons_succ, List.getElem_cons_zero, Act.put, List.setIfInBounds_toArray, List.set_cons_zero, List.set_cons_succ]
  refine wpAnyH_take (i := 1) (v := ?_) rfl (by kernel_rfl) (by kernel_rfl) (by kernel_rfl) (fun _ _ _ h => h) (Or.inl ⟨by rfl, ?_⟩) (by assumption) ?_
  rotate_left
  · (intro w hSw; have q0 : w.cell? ⟨wsz, 0, none⟩ = some (.string ⟨#[104, 116, 116, 112]⟩) := (hSw.cell (p := ⟨wsz, 0, none⟩) HDQ.out.lt).trans (HDQ.out.cell 0); go_simp; try with_reducible rfl)
  try simp only [List.getElem_toArray, List.getElem_cons_succ, List.getElem_cons_zero, Act.put, List.setIfInBounds_toArray, List.set_cons_zero, List.set_cons_succ]
  refine wpAnyH_take (i := 3) (v := ?_) rfl (by kernel_rfl) (by kernel_rfl) (by kernel_rfl) (fun _ _ _ h => h) (Or.inl ⟨by rfl, ?_⟩) (by assumption) ?_
  rotate_left
  · (intro w hSw; go_simp; try with_reducible rfl)
  try simp only [List.getElem_toArray, List.getElem_cons_succ, List.getElem_cons_zero, Act.put, List.setIfInBounds_toArray, List.set_cons_zero, List.set_cons_succ]
  refine wpAnyH_take (i := 4) (v := ?_) rfl (by kernel_rfl) (by kernel_rfl) (by kernel_rfl) (fun _ _ _ h => h) (Or.inl ⟨by rfl, ?_⟩) (by assumption) ?_
  rotate_left
  · (intro w hSw; have q0 : w.cell? ⟨wsz, 1, none⟩ = some (.string ⟨#[97, 46, 98]⟩) := (hSw.cell (p := ⟨wsz, 1, none⟩) HDQ.out.lt).trans (HDQ.out.cell 1); go_simp; try with_reducible rfl)
  try simp only [List.getElem_toArray, List.getElem_cons_succ, List.getElem_cons_zero, Act.put, List.setIfInBounds_toArray, List.set_cons_zero, List.set_cons_succ]
  refine wpAnyH_take (i := 6) (v := ?_) rfl (by kernel_rfl) (by kernel_rfl) (by kernel_rfl) (fun _ _ _ h => h) (Or.inl ⟨by rfl, ?_⟩) (by assumption) ?_
  rotate_left
  · (intro w hSw; go_simp; try with_reducible rfl)
  try simp only [List.getElem_toArray, List.getElem_cons_succ, List.getElem_cons_zero, Act.put, List.setIfInBounds_toArray, List.set_cons_zero, List.set_cons_succ]
  refine wpAnyH_take (i := 7) (v := ?_) rfl (by kernel_rfl) (by kernel_rfl) (by kernel_rfl) (fun _ _ _ h => h) (Or.inl ⟨by rfl, ?_⟩) (by assumption) ?_
  rotate_left
  · (intro w hSw; have q0 : w.cell? ⟨wsz, 2, none⟩ = some (.string ⟨#[]⟩) := (hSw.cell (p := ⟨wsz, 2, none⟩) HDQ.out.lt).trans (HDQ.out.cell 2); go_simp; try with_reducible rfl)
  try simp only [List.getElem_toArray, List.getElem_cons_succ, List.getElem_cons_zero, Act.put, List.setIfInBounds_toArray, List.set_cons_zero, List.set_cons_succ]
  refine wpAnyH_take (i := 9) (v := ?_) rfl (by kernel_rfl) (by kernel_rfl) (by kernel_rfl) (fun _ _ _ h => h) (Or.inl ⟨by rfl, ?_⟩) (by assumption) ?_
  rotate_left
  · (intro w hSw; go_simp; try with_reducible rfl)
  try simp only [List.getElem_toArray, List.getElem_cons_succ, List.getElem_cons_zero, Act.put, List.setIfInBounds_toArray, List.set_cons_zero, List.set_cons_succ]
  refine wpAnyH_take (i := 10) (v := ?_) rfl (by kernel_rfl) (by kernel_rfl) (by kernel_rfl) (fun _ _ _ h => h) (Or.inl ⟨by rfl, ?_⟩) (by assumption) ?_
  rotate_left
  · (intro w hSw; have q0 : w.cell? ⟨wsz, 3, none⟩ = some (.string ⟨#[47, 99]⟩) := (hSw.cell (p := ⟨wsz, 3, none⟩) HDQ.out.lt).trans (HDQ.out.cell 3); go_simp; try with_reducible rfl)
  try simp only [List.getElem_toArray, List.getElem_cons_succ, List.getElem_cons_zero, Act.put, List.setIfInBounds_toArray, List.set_cons_zero, List.set_cons_succ]
  refine wpAnyH_take (i := 12) (v := ?_) rfl (by kernel_rfl) (by kernel_rfl) (by kernel_rfl) (fun _ _ _ h => h) (Or.inl ⟨by rfl, ?_⟩) (by assumption) ?_
  rotate_left
  · (intro w hSw; go_simp; try with_reducible rfl)
  try simp only [List.getElem_toArray, List.getElem_cons_succ, List.getElem_cons_zero, Act.put, List.setIfInBounds_toArray, List.set_cons_zero, List.set_cons_succ]
  refine wpAnyH_take (i := 13) (v := ?_) rfl (by kernel_rfl) (by kernel_rfl) (by kernel_rfl) (fun _ _ _ h => h) (Or.inl ⟨by rfl, ?_⟩) (by assumption) ?_
  rotate_left
  · (intro w hSw; have q0 : w.cell? ⟨wsz, 4, none⟩ = some (.string ⟨#[]⟩) := (hSw.cell (p := ⟨wsz, 4, none⟩) HDQ.out.lt).trans (HDQ.out.cell 4); go_simp; try with_reducible rfl)
  try simp only [List.getElem_toArray, List.getElem_cons_succ, List.getElem_cons_zero, Act.put, List.setIfInBounds_toArray, List.set_cons_zero, List.set_cons_succ]
  refine wpAnyH_take (i := 15) (v := ?_) rfl (by kernel_rfl) (by kernel_rfl) (by kernel_rfl) (fun _ _ _ h => h) (Or.inl ⟨by rfl, ?_⟩) (by assumption) ?_
  rotate_left
  · (intro w hSw; go_simp; try with_reducible rfl)
  try simp only [List.getElem_toArray, List.getElem_cons_succ, List.getElem_cons_zero, Act.put, List.setIfInBounds_toArray, List.set_cons_zero, List.set_cons_succ]
  refine wpAnyH_take (i := 16) (v := ?_) rfl (by kernel_rfl) (by kernel_rfl) (by kernel_rfl) (fun _ _ _ h => h) (Or.inl ⟨by rfl, ?_⟩) (by assumption) ?_
  rotate_left
  · (intro w hSw; have q0 : w.cell? ⟨wsz, 5, none⟩ = some (.bool false) := (hSw.cell (p := ⟨wsz, 5, none⟩) HDQ.out.lt).trans (HDQ.out.cell 5); go_simp; try with_reducible rfl)
  try simp only [List.getElem_toArray, List.getElem_cons_succ, List.getElem_cons_zero, Act.put, List.setIfInBounds_toArray, List.set_cons_zero, List.set_cons_succ]
  refine wpAnyH_ready (rs := [2, 18]) (by kernel_rfl) (by simp) ?_
  refine AllReadyH.cons rfl (fun K hK => ?_) (AllReadyH.cons rfl (fun K hK => ?_) AllReadyH.nil)
  · rw [if_pos (by rfl)]
    simp only [List.getElem_toArray, List.getElem_cons_succ, List.getElem_cons_zero]
    go_simp
    go_at_call 82
    refine (small_http _).mono ?_
    rintro e wc1 ⟨rfl, hb⟩
    show K _ wc1
    refine hK.out _ _ hb (fun hHeld0 => ?_)
    clear hK K hHeld hHeld0
    refine heldMonoA (S' := fun w' => Below (wc1.heap.size) wc1 w') (fun w' h => ext_trans hb h) _ _ _ _ ?_
    have hHeld : Below (wc1.heap.size) wc1 wc1 := Below.refl _ _
    have B2 := Lib.hid (ext_trans HBQ.out hb)
    have G3 := Lib.hid (HGQ.out.ext hb)
    have HK4 := Lib.hid (HDQ.out.same (same_below hb) HDQ.out.lt)
    have HK5 := Lib.hid (HRQ.out.same (same_below hb) HRQ.out.lt)
    clear hb
    try simp only [List.getElem_toArray, List.getElem_cons_succ, List.getElem_cons_zero, Act.put, List.setIfInBounds_toArray, List.set_cons_zero, List.set_cons_succ]
    refine wpAnyH_ready (rs := [5, 18]) (by kernel_rfl) (by simp) ?_
    refine AllReadyH.cons rfl (fun K hK => ?_) (AllReadyH.cons rfl (fun K hK => ?_) AllReadyH.nil)
    · rw [if_pos (by rfl)]
      simp only [List.getElem_toArray, List.getElem_cons_succ, List.getElem_cons_zero]
      go_simp
      go_at_call 82
      refine (small_ab _).mono ?_
      rintro e wc13 ⟨rfl, hb⟩
      show K _ wc13
      refine hK.out _ _ hb (fun hHeld0 => ?_)
      clear hK K hHeld hHeld0
      refine heldMonoA (S' := fun w' => Below (wc13.heap.size) wc13 w') (fun w' h => ext_trans hb h) _ _ _ _ ?_
      have hHeld : Below (wc13.heap.size) wc13 wc13 := Below.refl _ _
      have B14 := Lib.hid (ext_trans B2.out hb)
      have G15 := Lib.hid (G3.out.ext hb)
      have HK16 := Lib.hid (HK4.out.same (same_below hb) HK4.out.lt)
      have HK17 := Lib.hid (HK5.out.same (same_below hb) HK5.out.lt)
      clear hb
      try simp only [List.getElem_toArray, List.getElem_cons_succ, List.getElem_cons_zero, Act.put, List.setIfInBounds_toArray, List.set_cons_zero, List.set_cons_succ]
      refine wpAnyH_ready (rs := [8, 18]) (by kernel_rfl) (by simp) ?_
      refine AllReadyH.cons rfl (fun K hK => ?_) (AllReadyH.cons rfl (fun K hK => ?_) AllReadyH.nil)
      · rw [if_pos (by rfl)]
        simp only [List.getElem_toArray, List.getElem_cons_succ, List.getElem_cons_zero]
        go_simp
        go_at_call 138
        refine (trimLeft_nil _).mono ?_
        rintro e wc25 ⟨rfl, hw⟩
        have hb : Below wc13.heap.size wc13 wc25 := by rw [hw]; exact Below.refl _ _
        clear hw
        show K _ wc25
        refine hK.out _ _ hb (fun hHeld0 => ?_)
        clear hK K hHeld hHeld0
        refine heldMonoA (S' := fun w' => Below (wc25.heap.size) wc25 w') (fun w' h => ext_trans hb h) _ _ _ _ ?_
        have hHeld : Below (wc25.heap.size) wc25 wc25 := Below.refl _ _
        have B26 := Lib.hid (ext_trans B14.out hb)
        have G27 := Lib.hid (G15.out.ext hb)
        have HK28 := Lib.hid (HK16.out.same (same_below hb) HK16.out.lt)
        have HK29 := Lib.hid (HK17.out.same (same_below hb) HK17.out.lt)
        clear hb
        try simp only [List.getElem_toArray, List.getElem_cons_succ, List.getElem_cons_zero, Act.put, List.setIfInBounds_toArray, List.set_cons_zero, List.set_cons_succ]
        refine wpAnyH_ready (rs := [11, 18]) (by kernel_rfl) (by simp) ?_
        refine AllReadyH.cons rfl (fun K hK => ?_) (AllReadyH.cons rfl (fun K hK => ?_) AllReadyH.nil)
        · rw [if_pos (by rfl)]
          simp only [List.getElem_toArray, List.getElem_cons_succ, List.getElem_cons_zero]
          go_simp
          go_at_call 139
          refine (normalRow_c _).mono ?_
          rintro e wc37 ⟨rfl, hb⟩
          show K _ wc37
          refine hK.out _ _ hb (fun hHeld0 => ?_)
          clear hK K hHeld hHeld0
          refine heldMonoA (S' := fun w' => Below (wc37.heap.size) wc37 w') (fun w' h => ext_trans hb h) _ _ _ _ ?_
          have hHeld : Below (wc37.heap.size) wc37 wc37 := Below.refl _ _
          have B38 := Lib.hid (ext_trans B26.out hb)
          have G39 := Lib.hid (G27.out.ext hb)
          have HK40 := Lib.hid (HK28.out.same (same_below hb) HK28.out.lt)
          have HK41 := Lib.hid (HK29.out.same (same_below hb) HK29.out.lt)
          clear hb
          try simp only [List.getElem_toArray, List.getElem_cons_succ, List.getElem_cons_zero, Act.put, List.setIfInBounds_toArray, List.set_cons_zero, List.set_cons_succ]
          refine wpAnyH_ready (rs := [14, 18]) (by kernel_rfl) (by simp) ?_
          refine AllReadyH.cons rfl (fun K hK => ?_) (AllReadyH.cons rfl (fun K hK => ?_) AllReadyH.nil)
          · rw [if_pos (by rfl)]
            simp only [List.getElem_toArray, List.getElem_cons_succ, List.getElem_cons_zero]
            go_simp
            go_at_call 139
            refine (normalRow_nil _).mono ?_
            rintro e wc49 ⟨rfl, hb⟩
            show K _ wc49
            refine hK.out _ _ hb (fun hHeld0 => ?_)
            clear hK K hHeld hHeld0
            refine heldMonoA (S' := fun w' => Below (wc49.heap.size) wc49 w') (fun w' h => ext_trans hb h) _ _ _ _ ?_
            have hHeld : Below (wc49.heap.size) wc49 wc49 := Below.refl _ _
            have B50 := Lib.hid (ext_trans B38.out hb)
            have G51 := Lib.hid (G39.out.ext hb)
            have HK52 := Lib.hid (HK40.out.same (same_below hb) HK40.out.lt)
            have HK53 := Lib.hid (HK41.out.same (same_below hb) HK41.out.lt)
            clear hb
            try simp only [List.getElem_toArray, List.getElem_cons_succ, List.getElem_cons_zero, Act.put, List.setIfInBounds_toArray, List.set_cons_zero, List.set_cons_succ]
            refine wpAnyH_take (i := 17) (v := ?_) rfl (by kernel_rfl) (by kernel_rfl) (by kernel_rfl) (fun _ _ _ h => h) (Or.inl ⟨by rfl, ?_⟩) (by assumption) ?_
            rotate_left
            · (intro w hSw; go_simp; try with_reducible rfl)
            try simp only [List.getElem_toArray, List.getElem_cons_succ, List.getElem_cons_zero, Act.put, List.setIfInBounds_toArray, List.set_cons_zero, List.set_cons_succ]
            refine wpAnyH_ready (rs := [18]) (by kernel_rfl) (by simp) ?_
            refine AllReadyH.cons rfl (fun K hK => ?_) AllReadyH.nil
            rw [if_pos (by rfl)]
            simp only [List.getElem_toArray, List.getElem_cons_succ, List.getElem_cons_zero]
            go_simp
            have hb := (Below.refl wc49.heap.size wc49).alloc (Nat.le_refl _) (.cells #[.string ⟨#[]⟩, .string ⟨#[]⟩, .string ⟨#[]⟩, .string ⟨#[]⟩, .string ⟨#[]⟩, .bool false, .string ⟨#[]⟩, .bool false] 80)
            have hnb : Blk (wc49.alloc (.cells #[.string ⟨#[]⟩, .string ⟨#[]⟩, .string ⟨#[]⟩, .string ⟨#[]⟩, .string ⟨#[]⟩, .bool false, .string ⟨#[]⟩, .bool false] 80)) wc49.heap.size 80 [.string ⟨#[]⟩, .string ⟨#[]⟩, .string ⟨#[]⟩, .string ⟨#[]⟩, .string ⟨#[]⟩, .bool false, .string ⟨#[]⟩, .bool false] := Blk.new wc49 80 [.string ⟨#[]⟩, .string ⟨#[]⟩, .string ⟨#[]⟩, .string ⟨#[]⟩, .string ⟨#[]⟩, .bool false, .string ⟨#[]⟩, .bool false]
            obtain ⟨wa61, hwa61⟩ : ∃ W, W = wc49.alloc (.cells #[.string ⟨#[]⟩, .string ⟨#[]⟩, .string ⟨#[]⟩, .string ⟨#[]⟩, .string ⟨#[]⟩, .bool false, .string ⟨#[]⟩, .bool false] 80) := ⟨_, rfl⟩
            rw [← hwa61] at hb hnb ⊢
            clear hwa61
            obtain ⟨ab63, hab63⟩ : ∃ b, b = wc49.heap.size := ⟨_, rfl⟩
            rw [← hab63] at hnb ⊢
            have habab63 : w.heap.size ≤ ab63 := by rw [hab63]; exact B50.out.size
            have hgtab63 : wsz + 1 < ab63 := by rw [hab63]; exact HK53.out.lt
            have HK62 := Lib.hid hnb
            clear hnb
            show K _ wa61
            refine hK.out _ _ hb (fun hHeld0 => ?_)
            clear hK K hHeld hHeld0
            refine heldMonoA (S' := fun w' => Below (ab63) wa61 w') (fun w' h => by rw [hab63] at h; exact hb.trans h) _ _ _ _ ?_
            have hHeld : Below (ab63) wa61 wa61 := Below.refl _ _
            have B64 := Lib.hid (ext_trans B50.out hb)
            have G65 := Lib.hid (G51.out.ext hb)
            have HK66 := Lib.hid (HK52.out.same (same_below hb) HK52.out.lt)
            have HK67 := Lib.hid (HK53.out.same (same_below hb) HK53.out.lt)
            clear hb
            try simp only [List.getElem_toArray, List.getElem_cons_succ, List.getElem_cons_zero, Act.put, List.setIfInBounds_toArray, List.set_cons_zero, List.set_cons_succ]
            clear hab63
            refine wpAnyH_ready (rs := [19]) (by kernel_rfl) (by simp) ?_
            refine AllReadyH.cons rfl (fun K hK => ?_) AllReadyH.nil
            have c0 : wa61.cell? ⟨ab63, 0, none⟩ = some (.string ⟨#[]⟩) := HK62.out.cell 0
            have z0 := HK62.out.frozen 0
            have c1 : wa61.cell? ⟨ab63, 1, none⟩ = some (.string ⟨#[]⟩) := HK62.out.cell 1
            have z1 := HK62.out.frozen 1
            have c2 : wa61.cell? ⟨ab63, 2, none⟩ = some (.string ⟨#[]⟩) := HK62.out.cell 2
            have z2 := HK62.out.frozen 2
            have c3 : wa61.cell? ⟨ab63, 3, none⟩ = some (.string ⟨#[]⟩) := HK62.out.cell 3
            have z3 := HK62.out.frozen 3
            have c4 : wa61.cell? ⟨ab63, 4, none⟩ = some (.string ⟨#[]⟩) := HK62.out.cell 4
            have z4 := HK62.out.frozen 4
            have c5 : wa61.cell? ⟨ab63, 5, none⟩ = some (.bool false) := HK62.out.cell 5
            have z5 := HK62.out.frozen 5
            have c6 : wa61.cell? ⟨ab63, 6, none⟩ = some (.string ⟨#[]⟩) := HK62.out.cell 6
            have z6 := HK62.out.frozen 6
            have c7 : wa61.cell? ⟨ab63, 7, none⟩ = some (.bool false) := HK62.out.cell 7
            have z7 := HK62.out.frozen 7
            have HBK := Lib.hid ((((((((HK62.out.set_ 0 (.string ⟨#[104, 116, 116, 112]⟩)).set_ 1 (.string ⟨#[97, 46, 98]⟩)).set_ 2 (.string ⟨#[]⟩)).set_ 3 (.string ⟨#[47, 99]⟩)).set_ 4 (.string ⟨#[]⟩)).set_ 5 (.bool false)).set_ 6 (.string ⟨#[]⟩)).set_ 7 (.bool false))
            have HBL := Lib.hid ((((((((B64.out.setCell (p := ⟨ab63, 0, none⟩) habab63 (.string ⟨#[104, 116, 116, 112]⟩)).setCell (p := ⟨ab63, 1, none⟩) habab63 (.string ⟨#[97, 46, 98]⟩)).setCell (p := ⟨ab63, 2, none⟩) habab63 (.string ⟨#[]⟩)).setCell (p := ⟨ab63, 3, none⟩) habab63 (.string ⟨#[47, 99]⟩)).setCell (p := ⟨ab63, 4, none⟩) habab63 (.string ⟨#[]⟩)).setCell (p := ⟨ab63, 5, none⟩) habab63 (.bool false)).setCell (p := ⟨ab63, 6, none⟩) habab63 (.string ⟨#[]⟩)).setCell (p := ⟨ab63, 7, none⟩) habab63 (.bool false))
            have hne : wsz + 1 ≠ ab63 := by omega
            have HRK := Lib.hid ((((((((HK67.out.set_a (g' := ab63) (i := 0) hne (.string ⟨#[104, 116, 116, 112]⟩)).set_a (g' := ab63) (i := 1) hne (.string ⟨#[97, 46, 98]⟩)).set_a (g' := ab63) (i := 2) hne (.string ⟨#[]⟩)).set_a (g' := ab63) (i := 3) hne (.string ⟨#[47, 99]⟩)).set_a (g' := ab63) (i := 4) hne (.string ⟨#[]⟩)).set_a (g' := ab63) (i := 5) hne (.bool false)).set_a (g' := ab63) (i := 6) hne (.string ⟨#[]⟩)).set_a (g' := ab63) (i := 7) hne (.bool false))
            rw [if_pos (by rfl)]
            simp only [List.getElem_toArray, List.getElem_cons_succ, List.getElem_cons_zero]
            go_simp
            refine hK.out _ _ (((((((((Below.refl ab63 wa61).setCell (p := ⟨ab63, 0, none⟩) (Nat.le_refl _) (.string ⟨#[104, 116, 116, 112]⟩)).setCell (p := ⟨ab63, 1, none⟩) (Nat.le_refl _) (.string ⟨#[97, 46, 98]⟩)).setCell (p := ⟨ab63, 2, none⟩) (Nat.le_refl _) (.string ⟨#[]⟩)).setCell (p := ⟨ab63, 3, none⟩) (Nat.le_refl _) (.string ⟨#[47, 99]⟩)).setCell (p := ⟨ab63, 4, none⟩) (Nat.le_refl _) (.string ⟨#[]⟩)).setCell (p := ⟨ab63, 5, none⟩) (Nat.le_refl _) (.bool false)).setCell (p := ⟨ab63, 6, none⟩) (Nat.le_refl _) (.string ⟨#[]⟩)).setCell (p := ⟨ab63, 7, none⟩) (Nat.le_refl _) (.bool false)) (fun hHeld0 => ?_)
            clear hK K hHeld hHeld0 c0 c1 c2 c3 c4 c5 c6 c7 z0 z1 z2 z3 z4 z5 z6 z7
            try simp only [List.getElem_toArray, List.getElem_cons_succ, List.getElem_cons_zero, Act.put, List.setIfInBounds_toArray, List.set_cons_zero, List.set_cons_succ]
            refine wpAnyH_done (by kernel_rfl) ?_ _
            generalize ((((((((wa61.setCell ⟨ab63, 0, none⟩ (.string ⟨#[104, 116, 116, 112]⟩)).setCell ⟨ab63, 1, none⟩ (.string ⟨#[97, 46, 98]⟩)).setCell ⟨ab63, 2, none⟩ (.string ⟨#[]⟩)).setCell ⟨ab63, 3, none⟩ (.string ⟨#[47, 99]⟩)).setCell ⟨ab63, 4, none⟩ (.string ⟨#[]⟩)).setCell ⟨ab63, 5, none⟩ (.bool false)).setCell ⟨ab63, 6, none⟩ (.string ⟨#[]⟩)).setCell ⟨ab63, 7, none⟩ (.bool false)) = wz at *
            have b0 : wz.cell? ⟨ab63, 0, none⟩ = some (.string ⟨#[104, 116, 116, 112]⟩) := HBK.out.cell 0
            have b1 : wz.cell? ⟨ab63, 1, none⟩ = some (.string ⟨#[97, 46, 98]⟩) := HBK.out.cell 1
            have b2 : wz.cell? ⟨ab63, 2, none⟩ = some (.string ⟨#[]⟩) := HBK.out.cell 2
            have b3 : wz.cell? ⟨ab63, 3, none⟩ = some (.string ⟨#[47, 99]⟩) := HBK.out.cell 3
            have b4 : wz.cell? ⟨ab63, 4, none⟩ = some (.string ⟨#[]⟩) := HBK.out.cell 4
            have b5 : wz.cell? ⟨ab63, 5, none⟩ = some (.bool false) := HBK.out.cell 5
            have b6 : wz.cell? ⟨ab63, 6, none⟩ = some (.string ⟨#[]⟩) := HBK.out.cell 6
            have b7 : wz.cell? ⟨ab63, 7, none⟩ = some (.bool false) := HBK.out.cell 7
            have HGZ := Lib.hid (HGW.out.ext HBL.out)
            go_wp2_with fail
            refine (undot_c wz HGZ.out).mono ?_
            rintro e w2 ⟨rfl, hb⟩
            have HBA := Lib.hid (HBK.out.same (same_below hb) HBK.out.lt)
            have HRA := Lib.hid (HRK.out.same (same_below hb) HRK.out.lt)
            have HBM := Lib.hid (ext_trans HBL.out hb)
            clear hb b0 b1 b2 b3 b4 b5 b6 b7 HBK HRK HBL HGZ
            have d3 : w2.cell? ⟨ab63, 3, none⟩ = some (.string ⟨#[47, 99]⟩) := HBA.out.cell 3
            have f3 := HBA.out.frozen 3
            have HBS : Hid (Blk (w2.setCell ⟨ab63, 3, none⟩ (.string ⟨#[47, 99]⟩)) ab63 80 [.string ⟨#[104, 116, 116, 112]⟩, .string ⟨#[97, 46, 98]⟩, .string ⟨#[]⟩, .string ⟨#[47, 99]⟩, .string ⟨#[]⟩, .bool false, .string ⟨#[]⟩, .bool false]) := Lib.hid (HBA.out.set_ 3 (.string ⟨#[47, 99]⟩))
            have HRS : Hid (Blk (w2.setCell ⟨ab63, 3, none⟩ (.string ⟨#[47, 99]⟩)) (wsz + 1) 80 [.string ⟨#[]⟩, .string ⟨#[]⟩, .string ⟨#[]⟩, .string ⟨#[]⟩, .string ⟨#[]⟩, .bool false, .string ⟨#[]⟩, .bool false]) := Lib.hid (HRA.out.set_a (g' := ab63) (i := 3) hne (.string ⟨#[47, 99]⟩))
            have HBT := Lib.hid (HBM.out.setCell (p := ⟨ab63, 3, none⟩) habab63 (.string ⟨#[47, 99]⟩))
            have m0 : (w2.setCell ⟨ab63, 3, none⟩ (.string ⟨#[47, 99]⟩)).cell? ⟨ab63, 0, none⟩ = some (.string ⟨#[104, 116, 116, 112]⟩) := HBS.out.cell 0
            have r0 : (w2.setCell ⟨ab63, 3, none⟩ (.string ⟨#[47, 99]⟩)).cell? ⟨wsz + 1, 0, none⟩ = some (.string ⟨#[]⟩) := HRS.out.cell 0
            have g0 := HRS.out.frozen 0
            have m1 : (w2.setCell ⟨ab63, 3, none⟩ (.string ⟨#[47, 99]⟩)).cell? ⟨ab63, 1, none⟩ = some (.string ⟨#[97, 46, 98]⟩) := HBS.out.cell 1
            have r1 : (w2.setCell ⟨ab63, 3, none⟩ (.string ⟨#[47, 99]⟩)).cell? ⟨wsz + 1, 1, none⟩ = some (.string ⟨#[]⟩) := HRS.out.cell 1
            have g1 := HRS.out.frozen 1
            have m2 : (w2.setCell ⟨ab63, 3, none⟩ (.string ⟨#[47, 99]⟩)).cell? ⟨ab63, 2, none⟩ = some (.string ⟨#[]⟩) := HBS.out.cell 2
            have r2 : (w2.setCell ⟨ab63, 3, none⟩ (.string ⟨#[47, 99]⟩)).cell? ⟨wsz + 1, 2, none⟩ = some (.string ⟨#[]⟩) := HRS.out.cell 2
            have g2 := HRS.out.frozen 2
            have m3 : (w2.setCell ⟨ab63, 3, none⟩ (.string ⟨#[47, 99]⟩)).cell? ⟨ab63, 3, none⟩ = some (.string ⟨#[47, 99]⟩) := HBS.out.cell 3
            have r3 : (w2.setCell ⟨ab63, 3, none⟩ (.string ⟨#[47, 99]⟩)).cell? ⟨wsz + 1, 3, none⟩ = some (.string ⟨#[]⟩) := HRS.out.cell 3
            have g3 := HRS.out.frozen 3
            have m4 : (w2.setCell ⟨ab63, 3, none⟩ (.string ⟨#[47, 99]⟩)).cell? ⟨ab63, 4, none⟩ = some (.string ⟨#[]⟩) := HBS.out.cell 4
            have r4 : (w2.setCell ⟨ab63, 3, none⟩ (.string ⟨#[47, 99]⟩)).cell? ⟨wsz + 1, 4, none⟩ = some (.string ⟨#[]⟩) := HRS.out.cell 4
            have g4 := HRS.out.frozen 4
            have m5 : (w2.setCell ⟨ab63, 3, none⟩ (.string ⟨#[47, 99]⟩)).cell? ⟨ab63, 5, none⟩ = some (.bool false) := HBS.out.cell 5
            have r5 : (w2.setCell ⟨ab63, 3, none⟩ (.string ⟨#[47, 99]⟩)).cell? ⟨wsz + 1, 5, none⟩ = some (.bool false) := HRS.out.cell 5
            have g5 := HRS.out.frozen 5
            have m6 : (w2.setCell ⟨ab63, 3, none⟩ (.string ⟨#[47, 99]⟩)).cell? ⟨ab63, 6, none⟩ = some (.string ⟨#[]⟩) := HBS.out.cell 6
            have r6 : (w2.setCell ⟨ab63, 3, none⟩ (.string ⟨#[47, 99]⟩)).cell? ⟨wsz + 1, 6, none⟩ = some (.string ⟨#[]⟩) := HRS.out.cell 6
            have g6 := HRS.out.frozen 6
            have m7 : (w2.setCell ⟨ab63, 3, none⟩ (.string ⟨#[47, 99]⟩)).cell? ⟨ab63, 7, none⟩ = some (.bool false) := HBS.out.cell 7
            have r7 : (w2.setCell ⟨ab63, 3, none⟩ (.string ⟨#[47, 99]⟩)).cell? ⟨wsz + 1, 7, none⟩ = some (.bool false) := HRS.out.cell 7
            have g7 := HRS.out.frozen 7
            have HFK := Lib.hid ((((((((HRS.out.set_ 0 (.string ⟨#[104, 116, 116, 112]⟩)).set_ 1 (.string ⟨#[97, 46, 98]⟩)).set_ 2 (.string ⟨#[]⟩)).set_ 3 (.string ⟨#[47, 99]⟩)).set_ 4 (.string ⟨#[]⟩)).set_ 5 (.bool false)).set_ 6 (.string ⟨#[]⟩)).set_ 7 (.bool false))
            have HFL := Lib.hid ((((((((HBT.out.setCell (p := ⟨wsz + 1, 0, none⟩) (by rw [HWS.out]; exact Nat.le_succ _) (.string ⟨#[104, 116, 116, 112]⟩)).setCell (p := ⟨wsz + 1, 1, none⟩) (by rw [HWS.out]; exact Nat.le_succ _) (.string ⟨#[97, 46, 98]⟩)).setCell (p := ⟨wsz + 1, 2, none⟩) (by rw [HWS.out]; exact Nat.le_succ _) (.string ⟨#[]⟩)).setCell (p := ⟨wsz + 1, 3, none⟩) (by rw [HWS.out]; exact Nat.le_succ _) (.string ⟨#[47, 99]⟩)).setCell (p := ⟨wsz + 1, 4, none⟩) (by rw [HWS.out]; exact Nat.le_succ _) (.string ⟨#[]⟩)).setCell (p := ⟨wsz + 1, 5, none⟩) (by rw [HWS.out]; exact Nat.le_succ _) (.bool false)).setCell (p := ⟨wsz + 1, 6, none⟩) (by rw [HWS.out]; exact Nat.le_succ _) (.string ⟨#[]⟩)).setCell (p := ⟨wsz + 1, 7, none⟩) (by rw [HWS.out]; exact Nat.le_succ _) (.bool false))
            go_wp2_with fail
            refine bodyPost_ret (results_cell_row rfl _ _ (wsz + 1) 80 #[.string ⟨#[104, 116, 116, 112]⟩, .string ⟨#[97, 46, 98]⟩, .string ⟨#[]⟩, .string ⟨#[47, 99]⟩, .string ⟨#[]⟩, .bool false, .string ⟨#[]⟩, .bool false] (0, 0) _ rfl HFK.out Tryz.underlying80 rfl addr_info) rfl ?_
            exact ⟨rfl, HFL.out⟩
          · rw [if_pos (by rfl)]
            simp only [List.getElem_toArray, List.getElem_cons_succ, List.getElem_cons_zero]
            go_simp
            have hb := (Below.refl wc37.heap.size wc37).alloc (Nat.le_refl _) (.cells #[.string ⟨#[]⟩, .string ⟨#[]⟩, .string ⟨#[]⟩, .string ⟨#[]⟩, .string ⟨#[]⟩, .bool false, .string ⟨#[]⟩, .bool false] 80)
            have hnb : Blk (wc37.alloc (.cells #[.string ⟨#[]⟩, .string ⟨#[]⟩, .string ⟨#[]⟩, .string ⟨#[]⟩, .string ⟨#[]⟩, .bool false, .string ⟨#[]⟩, .bool false] 80)) wc37.heap.size 80 [.string ⟨#[]⟩, .string ⟨#[]⟩, .string ⟨#[]⟩, .string ⟨#[]⟩, .string ⟨#[]⟩, .bool false, .string ⟨#[]⟩, .bool false] := Blk.new wc37 80 [.string ⟨#[]⟩, .string ⟨#[]⟩, .string ⟨#[]⟩, .string ⟨#[]⟩, .string ⟨#[]⟩, .bool false, .string ⟨#[]⟩, .bool false]
            obtain ⟨wa54, hwa54⟩ : ∃ W, W = wc37.alloc (.cells #[.string ⟨#[]⟩, .string ⟨#[]⟩, .string ⟨#[]⟩, .string ⟨#[]⟩, .string ⟨#[]⟩, .bool false, .string ⟨#[]⟩, .bool false] 80) := ⟨_, rfl⟩
            rw [← hwa54] at hb hnb ⊢
            clear hwa54
            obtain ⟨ab56, hab56⟩ : ∃ b, b = wc37.heap.size := ⟨_, rfl⟩
            rw [← hab56] at hnb ⊢
            have habab56 : w.heap.size ≤ ab56 := by rw [hab56]; exact B38.out.size
            have hgtab56 : wsz + 1 < ab56 := by rw [hab56]; exact HK41.out.lt
            have HK55 := Lib.hid hnb
            clear hnb
            show K _ wa54
            refine hK.out _ _ hb (fun hHeld0 => ?_)
            clear hK K hHeld hHeld0
            refine heldMonoA (S' := fun w' => Below (ab56) wa54 w') (fun w' h => by rw [hab56] at h; exact hb.trans h) _ _ _ _ ?_
            have hHeld : Below (ab56) wa54 wa54 := Below.refl _ _
            have B57 := Lib.hid (ext_trans B38.out hb)
            have G58 := Lib.hid (G39.out.ext hb)
            have HK59 := Lib.hid (HK40.out.same (same_below hb) HK40.out.lt)
            have HK60 := Lib.hid (HK41.out.same (same_below hb) HK41.out.lt)
            clear hb
            try simp only [List.getElem_toArray, List.getElem_cons_succ, List.getElem_cons_zero, Act.put, List.setIfInBounds_toArray, List.set_cons_zero, List.set_cons_succ]
            clear hab56
            refine wpAnyH_ready (rs := [14]) (by kernel_rfl) (by simp) ?_
            refine AllReadyH.cons rfl (fun K hK => ?_) AllReadyH.nil
            rw [if_pos (by rfl)]
            simp only [List.getElem_toArray, List.getElem_cons_succ, List.getElem_cons_zero]
            go_simp
            go_at_call 139
            refine (normalRow_nil _).mono ?_
            rintro e wc68 ⟨rfl, hb⟩
            show K _ wc68
            refine hK.out _ _ (hb.mono (Nat.le_of_lt HK55.out.lt)) (fun hHeld0 => ?_)
            clear hK K hHeld hHeld0
            refine heldMonoA (S' := fun w' => Below (ab56) wc68 w') (fun w' h => (hb.mono (Nat.le_of_lt HK55.out.lt)).trans h) _ _ _ _ ?_
            have hHeld : Below (ab56) wc68 wc68 := Below.refl _ _
            have B69 := Lib.hid (ext_trans B57.out hb)
            have G70 := Lib.hid (G58.out.ext hb)
            have HK71 := Lib.hid (HK59.out.same (same_below hb) HK59.out.lt)
            have HK72 := Lib.hid (HK60.out.same (same_below hb) HK60.out.lt)
            have HK73 := Lib.hid (HK55.out.same (same_below hb) HK55.out.lt)
            clear hb
            try simp only [List.getElem_toArray, List.getElem_cons_succ, List.getElem_cons_zero, Act.put, List.setIfInBounds_toArray, List.set_cons_zero, List.set_cons_succ]
            refine wpAnyH_take (i := 17) (v := ?_) rfl (by kernel_rfl) (by kernel_rfl) (by kernel_rfl) (fun _ _ _ h => h) (Or.inl ⟨by rfl, ?_⟩) (by assumption) ?_
            rotate_left
            · (intro w hSw; go_simp; try with_reducible rfl)
            try simp only [List.getElem_toArray, List.getElem_cons_succ, List.getElem_cons_zero, Act.put, List.setIfInBounds_toArray, List.set_cons_zero, List.set_cons_succ]
            refine wpAnyH_ready (rs := [19]) (by kernel_rfl) (by simp) ?_
            refine AllReadyH.cons rfl (fun K hK => ?_) AllReadyH.nil
            have c0 : wc68.cell? ⟨ab56, 0, none⟩ = some (.string ⟨#[]⟩) := HK73.out.cell 0
            have z0 := HK73.out.frozen 0
            have c1 : wc68.cell? ⟨ab56, 1, none⟩ = some (.string ⟨#[]⟩) := HK73.out.cell 1
            have z1 := HK73.out.frozen 1
            have c2 : wc68.cell? ⟨ab56, 2, none⟩ = some (.string ⟨#[]⟩) := HK73.out.cell 2
            have z2 := HK73.out.frozen 2
            have c3 : wc68.cell? ⟨ab56, 3, none⟩ = some (.string ⟨#[]⟩) := HK73.out.cell 3
            have z3 := HK73.out.frozen 3
            have c4 : wc68.cell? ⟨ab56, 4, none⟩ = some (.string ⟨#[]⟩) := HK73.out.cell 4
            have z4 := HK73.out.frozen 4
            have c5 : wc68.cell? ⟨ab56, 5, none⟩ = some (.bool false) := HK73.out.cell 5
            have z5 := HK73.out.frozen 5
            have c6 : wc68.cell? ⟨ab56, 6, none⟩ = some (.string ⟨#[]⟩) := HK73.out.cell 6
            have z6 := HK73.out.frozen 6
            have c7 : wc68.cell? ⟨ab56, 7, none⟩ = some (.bool false) := HK73.out.cell 7
            have z7 := HK73.out.frozen 7
            have HBK := Lib.hid ((((((((HK73.out.set_ 0 (.string ⟨#[104, 116, 116, 112]⟩)).set_ 1 (.string ⟨#[97, 46, 98]⟩)).set_ 2 (.string ⟨#[]⟩)).set_ 3 (.string ⟨#[47, 99]⟩)).set_ 4 (.string ⟨#[]⟩)).set_ 5 (.bool false)).set_ 6 (.string ⟨#[]⟩)).set_ 7 (.bool false))
            have HBL := Lib.hid ((((((((B69.out.setCell (p := ⟨ab56, 0, none⟩) habab56 (.string ⟨#[104, 116, 116, 112]⟩)).setCell (p := ⟨ab56, 1, none⟩) habab56 (.string ⟨#[97, 46, 98]⟩)).setCell (p := ⟨ab56, 2, none⟩) habab56 (.string ⟨#[]⟩)).setCell (p := ⟨ab56, 3, none⟩) habab56 (.string ⟨#[47, 99]⟩)).setCell (p := ⟨ab56, 4, none⟩) habab56 (.string ⟨#[]⟩)).setCell (p := ⟨ab56, 5, none⟩) habab56 (.bool false)).setCell (p := ⟨ab56, 6, none⟩) habab56 (.string ⟨#[]⟩)).setCell (p := ⟨ab56, 7, none⟩) habab56 (.bool false))
            have hne : wsz + 1 ≠ ab56 := by omega
            have HRK := Lib.hid ((((((((HK72.out.set_a (g' := ab56) (i := 0) hne (.string ⟨#[104, 116, 116, 112]⟩)).set_a (g' := ab56) (i := 1) hne (.string ⟨#[97, 46, 98]⟩)).set_a (g' := ab56) (i := 2) hne (.string ⟨#[]⟩)).set_a (g' := ab56) (i := 3) hne (.string ⟨#[47, 99]⟩)).set_a (g' := ab56) (i := 4) hne (.string ⟨#[]⟩)).set_a (g' := ab56) (i := 5) hne (.bool false)).set_a (g' := ab56) (i := 6) hne (.string ⟨#[]⟩)).set_a (g' := ab56) (i := 7) hne (.bool false))
            rw [if_pos (by rfl)]
            simp only [List.getElem_toArray, List.getElem_cons_succ, List.getElem_cons_zero]
            go_simp
            refine hK.out _ _ (((((((((Below.refl ab56 wc68).setCell (p := ⟨ab56, 0, none⟩) (Nat.le_refl _) (.string ⟨#[104, 116, 116, 112]⟩)).setCell (p := ⟨ab56, 1, none⟩) (Nat.le_refl _) (.string ⟨#[97, 46, 98]⟩)).setCell (p := ⟨ab56, 2, none⟩) (Nat.le_refl _) (.string ⟨#[]⟩)).setCell (p := ⟨ab56, 3, none⟩) (Nat.le_refl _) (.string ⟨#[47, 99]⟩)).setCell (p := ⟨ab56, 4, none⟩) (Nat.le_refl _) (.string ⟨#[]⟩)).setCell (p := ⟨ab56, 5, none⟩) (Nat.le_refl _) (.bool false)).setCell (p := ⟨ab56, 6, none⟩) (Nat.le_refl _) (.string ⟨#[]⟩)).setCell (p := ⟨ab56, 7, none⟩) (Nat.le_refl _) (.bool false)) (fun hHeld0 => ?_)
            clear hK K hHeld hHeld0 c0 c1 c2 c3 c4 c5 c6 c7 z0 z1 z2 z3 z4 z5 z6 z7
            try simp only [List.getElem_toArray, List.getElem_cons_succ, List.getElem_cons_zero, Act.put, List.setIfInBounds_toArray, List.set_cons_zero, List.set_cons_succ]
            refine wpAnyH_done (by kernel_rfl) ?_ _
            generalize ((((((((wc68.setCell ⟨ab56, 0, none⟩ (.string ⟨#[104, 116, 116, 112]⟩)).setCell ⟨ab56, 1, none⟩ (.string ⟨#[97, 46, 98]⟩)).setCell ⟨ab56, 2, none⟩ (.string ⟨#[]⟩)).setCell ⟨ab56, 3, none⟩ (.string ⟨#[47, 99]⟩)).setCell ⟨ab56, 4, none⟩ (.string ⟨#[]⟩)).setCell ⟨ab56, 5, none⟩ (.bool false)).setCell ⟨ab56, 6, none⟩ (.string ⟨#[]⟩)).setCell ⟨ab56, 7, none⟩ (.bool false)) = wz at *
            have b0 : wz.cell? ⟨ab56, 0, none⟩ = some (.string ⟨#[104, 116, 116, 112]⟩) := HBK.out.cell 0
            have b1 : wz.cell? ⟨ab56, 1, none⟩ = some (.string ⟨#[97, 46, 98]⟩) := HBK.out.cell 1
            have b2 : wz.cell? ⟨ab56, 2, none⟩ = some (.string ⟨#[]⟩) := HBK.out.cell 2
            have b3 : wz.cell? ⟨ab56, 3, none⟩ = some (.string ⟨#[47, 99]⟩) := HBK.out.cell 3
            have b4 : wz.cell? ⟨ab56, 4, none⟩ = some (.string ⟨#[]⟩) := HBK.out.cell 4
            have b5 : wz.cell? ⟨ab56, 5, none⟩ = some (.bool false) := HBK.out.cell 5
            have b6 : wz.cell? ⟨ab56, 6, none⟩ = some (.string ⟨#[]⟩) := HBK.out.cell 6
            have b7 : wz.cell? ⟨ab56, 7, none⟩ = some (.bool false) := HBK.out.cell 7
            have HGZ := Lib.hid (HGW.out.ext HBL.out)
            go_wp2_with fail
            refine (undot_c wz HGZ.out).mono ?_
            rintro e w2 ⟨rfl, hb⟩
            have HBA := Lib.hid (HBK.out.same (same_below hb) HBK.out.lt)
            have HRA := Lib.hid (HRK.out.same (same_below hb) HRK.out.lt)
            have HBM := Lib.hid (ext_trans HBL.out hb)
            clear hb b0 b1 b2 b3 b4 b5 b6 b7 HBK HRK HBL HGZ
            have d3 : w2.cell? ⟨ab56, 3, none⟩ = some (.string ⟨#[47, 99]⟩) := HBA.out.cell 3
            have f3 := HBA.out.frozen 3
            have HBS : Hid (Blk (w2.setCell ⟨ab56, 3, none⟩ (.string ⟨#[47, 99]⟩)) ab56 80 [.string ⟨#[104, 116, 116, 112]⟩, .string ⟨#[97, 46, 98]⟩, .string ⟨#[]⟩, .string ⟨#[47, 99]⟩, .string ⟨#[]⟩, .bool false, .string ⟨#[]⟩, .bool false]) := Lib.hid (HBA.out.set_ 3 (.string ⟨#[47, 99]⟩))
            have HRS : Hid (Blk (w2.setCell ⟨ab56, 3, none⟩ (.string ⟨#[47, 99]⟩)) (wsz + 1) 80 [.string ⟨#[]⟩, .string ⟨#[]⟩, .string ⟨#[]⟩, .string ⟨#[]⟩, .string ⟨#[]⟩, .bool false, .string ⟨#[]⟩, .bool false]) := Lib.hid (HRA.out.set_a (g' := ab56) (i := 3) hne (.string ⟨#[47, 99]⟩))
            have HBT := Lib.hid (HBM.out.setCell (p := ⟨ab56, 3, none⟩) habab56 (.string ⟨#[47, 99]⟩))
            have m0 : (w2.setCell ⟨ab56, 3, none⟩ (.string ⟨#[47, 99]⟩)).cell? ⟨ab56, 0, none⟩ = some (.string ⟨#[104, 116, 116, 112]⟩) := HBS.out.cell 0
            have r0 : (w2.setCell ⟨ab56, 3, none⟩ (.string ⟨#[47, 99]⟩)).cell? ⟨wsz + 1, 0, none⟩ = some (.string ⟨#[]⟩) := HRS.out.cell 0
            have g0 := HRS.out.frozen 0
            have m1 : (w2.setCell ⟨ab56, 3, none⟩ (.string ⟨#[47, 99]⟩)).cell? ⟨ab56, 1, none⟩ = some (.string ⟨#[97, 46, 98]⟩) := HBS.out.cell 1
            have r1 : (w2.setCell ⟨ab56, 3, none⟩ (.string ⟨#[47, 99]⟩)).cell? ⟨wsz + 1, 1, none⟩ = some (.string ⟨#[]⟩) := HRS.out.cell 1
            have g1 := HRS.out.frozen 1
            have m2 : (w2.setCell ⟨ab56, 3, none⟩ (.string ⟨#[47, 99]⟩)).cell? ⟨ab56, 2, none⟩ = some (.string ⟨#[]⟩) := HBS.out.cell 2
            have r2 : (w2.setCell ⟨ab56, 3, none⟩ (.string ⟨#[47, 99]⟩)).cell? ⟨wsz + 1, 2, none⟩ = some (.string ⟨#[]⟩) := HRS.out.cell 2
            have g2 := HRS.out.frozen 2
            have m3 : (w2.setCell ⟨ab56, 3, none⟩ (.string ⟨#[47, 99]⟩)).cell? ⟨ab56, 3, none⟩ = some (.string ⟨#[47, 99]⟩) := HBS.out.cell 3
            have r3 : (w2.setCell ⟨ab56, 3, none⟩ (.string ⟨#[47, 99]⟩)).cell? ⟨wsz + 1, 3, none⟩ = some (.string ⟨#[]⟩) := HRS.out.cell 3
            have g3 := HRS.out.frozen 3
            have m4 : (w2.setCell ⟨ab56, 3, none⟩ (.string ⟨#[47, 99]⟩)).cell? ⟨ab56, 4, none⟩ = some (.string ⟨#[]⟩) := HBS.out.cell 4
            have r4 : (w2.setCell ⟨ab56, 3, none⟩ (.string ⟨#[47, 99]⟩)).cell? ⟨wsz + 1, 4, none⟩ = some (.string ⟨#[]⟩) := HRS.out.cell 4
            have g4 := HRS.out.frozen 4
            have m5 : (w2.setCell ⟨ab56, 3, none⟩ (.string ⟨#[47, 99]⟩)).cell? ⟨ab56, 5, none⟩ = some (.bool false) := HBS.out.cell 5
            have r5 : (w2.setCell ⟨ab56, 3, none⟩ (.string ⟨#[47, 99]⟩)).cell? ⟨wsz + 1, 5, none⟩ = some (.bool false) := HRS.out.cell 5
            have g5 := HRS.out.frozen 5
            have m6 : (w2.setCell ⟨ab56, 3, none⟩ (.string ⟨#[47, 99]⟩)).cell? ⟨ab56, 6, none⟩ = some (.string ⟨#[]⟩) := HBS.out.cell 6
            have r6 : (w2.setCell ⟨ab56, 3, none⟩ (.string ⟨#[47, 99]⟩)).cell? ⟨wsz + 1, 6, none⟩ = some (.string ⟨#[]⟩) := HRS.out.cell 6
            have g6 := HRS.out.frozen 6
            have m7 : (w2.setCell ⟨ab56, 3, none⟩ (.string ⟨#[47, 99]⟩)).cell? ⟨ab56, 7, none⟩ = some (.bool false) := HBS.out.cell 7
            have r7 : (w2.setCell ⟨ab56, 3, none⟩ (.string ⟨#[47, 99]⟩)).cell? ⟨wsz + 1, 7, none⟩ = some (.bool false) := HRS.out.cell 7
            have g7 := HRS.out.frozen 7
            have HFK := Lib.hid ((((((((HRS.out.set_ 0 (.string ⟨#[104, 116, 116, 112]⟩)).set_ 1 (.string ⟨#[97, 46, 98]⟩)).set_ 2 (.string ⟨#[]⟩)).set_ 3 (.string ⟨#[47, 99]⟩)).set_ 4 (.string ⟨#[]⟩)).set_ 5 (.bool false)).set_ 6 (.string ⟨#[]⟩)).set_ 7 (.bool false))
            have HFL := Lib.hid ((((((((HBT.out.setCell (p := ⟨wsz + 1, 0, none⟩) (by rw [HWS.out]; exact Nat.le_succ _) (.string ⟨#[104, 116, 116, 112]⟩)).setCell (p := ⟨wsz + 1, 1, none⟩) (by rw [HWS.out]; exact Nat.le_succ _) (.string ⟨#[97, 46, 98]⟩)).setCell (p := ⟨wsz + 1, 2, none⟩) (by rw [HWS.out]; exact Nat.le_succ _) (.string ⟨#[]⟩)).setCell (p := ⟨wsz + 1, 3, none⟩) (by rw [HWS.out]; exact Nat.le_succ _) (.string ⟨#[47, 99]⟩)).setCell (p := ⟨wsz + 1, 4, none⟩) (by rw [HWS.out]; exact Nat.le_succ _) (.string ⟨#[]⟩)).setCell (p := ⟨wsz + 1, 5, none⟩) (by rw [HWS.out]; exact Nat.le_succ _) (.bool false)).setCell (p := ⟨wsz + 1, 6, none⟩) (by rw [HWS.out]; exact Nat.le_succ _) (.string ⟨#[]⟩)).setCell (p := ⟨wsz + 1, 7, none⟩) (by rw [HWS.out]; exact Nat.le_succ _) (.bool false))
            go_wp2_with fail
            refine bodyPost_ret (results_cell_row rfl _ _ (wsz + 1) 80 #[.string ⟨#[104, 116, 116, 112]⟩, .string ⟨#[97, 46, 98]⟩, .string ⟨#[]⟩, .string ⟨#[47, 99]⟩, .string ⟨#[]⟩, .bool false, .string ⟨#[]⟩, .bool false] (0, 0) _ rfl HFK.out Tryz.underlying80 rfl addr_info) rfl ?_
            exact ⟨rfl, HFL.out⟩
        · rw [if_pos (by rfl)]
          simp only [List.getElem_toArray, List.getElem_cons_succ, List.getElem_cons_zero]
          go_simp
          have hb := (Below.refl wc25.heap.size wc25).alloc (Nat.le_refl _) (.cells #[.string ⟨#[]⟩, .string ⟨#[]⟩, .string ⟨#[]⟩, .string ⟨#[]⟩, .string ⟨#[]⟩, .bool false, .string ⟨#[]⟩, .bool false] 80)
          have hnb : Blk (wc25.alloc (.cells #[.string ⟨#[]⟩, .string ⟨#[]⟩, .string ⟨#[]⟩, .string ⟨#[]⟩, .string ⟨#[]⟩, .bool false, .string ⟨#[]⟩, .bool false] 80)) wc25.heap.size 80 [.string ⟨#[]⟩, .string ⟨#[]⟩, .string ⟨#[]⟩, .string ⟨#[]⟩, .string ⟨#[]⟩, .bool false, .string ⟨#[]⟩, .bool false] := Blk.new wc25 80 [.string ⟨#[]⟩, .string ⟨#[]⟩, .string ⟨#[]⟩, .string ⟨#[]⟩, .string ⟨#[]⟩, .bool false, .string ⟨#[]⟩, .bool false]
          obtain ⟨wa42, hwa42⟩ : ∃ W, W = wc25.alloc (.cells #[.string ⟨#[]⟩, .string ⟨#[]⟩, .string ⟨#[]⟩, .string ⟨#[]⟩, .string ⟨#[]⟩, .bool false, .string ⟨#[]⟩, .bool false] 80) := ⟨_, rfl⟩
          rw [← hwa42] at hb hnb ⊢
          clear hwa42
          obtain ⟨ab44, hab44⟩ : ∃ b, b = wc25.heap.size := ⟨_, rfl⟩
          rw [← hab44] at hnb ⊢
          have habab44 : w.heap.size ≤ ab44 := by rw [hab44]; exact B26.out.size
          have hgtab44 : wsz + 1 < ab44 := by rw [hab44]; exact HK29.out.lt
          have HK43 := Lib.hid hnb
          clear hnb
          show K _ wa42
          refine hK.out _ _ hb (fun hHeld0 => ?_)
          clear hK K hHeld hHeld0
          refine heldMonoA (S' := fun w' => Below (ab44) wa42 w') (fun w' h => by rw [hab44] at h; exact hb.trans h) _ _ _ _ ?_
          have hHeld : Below (ab44) wa42 wa42 := Below.refl _ _
          have B45 := Lib.hid (ext_trans B26.out hb)
          have G46 := Lib.hid (G27.out.ext hb)
          have HK47 := Lib.hid (HK28.out.same (same_below hb) HK28.out.lt)
          have HK48 := Lib.hid (HK29.out.same (same_below hb) HK29.out.lt)
          clear hb
          try simp only [List.getElem_toArray, List.getElem_cons_succ, List.getElem_cons_zero, Act.put, List.setIfInBounds_toArray, List.set_cons_zero, List.set_cons_succ]
          clear hab44
          refine wpAnyH_ready (rs := [11]) (by kernel_rfl) (by simp) ?_
          refine AllReadyH.cons rfl (fun K hK => ?_) AllReadyH.nil
          rw [if_pos (by rfl)]
          simp only [List.getElem_toArray, List.getElem_cons_succ, List.getElem_cons_zero]
          go_simp
          go_at_call 139
          refine (normalRow_c _).mono ?_
          rintro e wc74 ⟨rfl, hb⟩
          show K _ wc74
          refine hK.out _ _ (hb.mono (Nat.le_of_lt HK43.out.lt)) (fun hHeld0 => ?_)
          clear hK K hHeld hHeld0
          refine heldMonoA (S' := fun w' => Below (ab44) wc74 w') (fun w' h => (hb.mono (Nat.le_of_lt HK43.out.lt)).trans h) _ _ _ _ ?_
          have hHeld : Below (ab44) wc74 wc74 := Below.refl _ _
          have B75 := Lib.hid (ext_trans B45.out hb)
          have G76 := Lib.hid (G46.out.ext hb)
          have HK77 := Lib.hid (HK47.out.same (same_below hb) HK47.out.lt)
          have HK78 := Lib.hid (HK48.out.same (same_below hb) HK48.out.lt)
          have HK79 := Lib.hid (HK43.out.same (same_below hb) HK43.out.lt)
          clear hb
          try simp only [List.getElem_toArray, List.getElem_cons_succ, List.getElem_cons_zero, Act.put, List.setIfInBounds_toArray, List.set_cons_zero, List.set_cons_succ]
          refine wpAnyH_ready (rs := [14]) (by kernel_rfl) (by simp) ?_
          refine AllReadyH.cons rfl (fun K hK => ?_) AllReadyH.nil
          rw [if_pos (by rfl)]
          simp only [List.getElem_toArray, List.getElem_cons_succ, List.getElem_cons_zero]
          go_simp
          go_at_call 139
          refine (normalRow_nil _).mono ?_
          rintro e wc80 ⟨rfl, hb⟩
          show K _ wc80
          refine hK.out _ _ (hb.mono (Nat.le_of_lt HK79.out.lt)) (fun hHeld0 => ?_)
          clear hK K hHeld hHeld0
          refine heldMonoA (S' := fun w' => Below (ab44) wc80 w') (fun w' h => (hb.mono (Nat.le_of_lt HK79.out.lt)).trans h) _ _ _ _ ?_
          have hHeld : Below (ab44) wc80 wc80 := Below.refl _ _
          have B81 := Lib.hid (ext_trans B75.out hb)
          have G82 := Lib.hid (G76.out.ext hb)
          have HK83 := Lib.hid (HK77.out.same (same_below hb) HK77.out.lt)
          have HK84 := Lib.hid (HK78.out.same (same_below hb) HK78.out.lt)
          have HK85 := Lib.hid (HK79.out.same (same_below hb) HK79.out.lt)
          clear hb
          try simp only [List.getElem_toArray, List.getElem_cons_succ, List.getElem_cons_zero, Act.put, List.setIfInBounds_toArray, List.set_cons_zero, List.set_cons_succ]
          refine wpAnyH_take (i := 17) (v := ?_) rfl (by kernel_rfl) (by kernel_rfl) (by kernel_rfl) (fun _ _ _ h => h) (Or.inl ⟨by rfl, ?_⟩) (by assumption) ?_
          rotate_left
          · (intro w hSw; go_simp; try with_reducible rfl)
          try simp only [List.getElem_toArray, List.getElem_cons_succ, List.getElem_cons_zero, Act.put, List.setIfInBounds_toArray, List.set_cons_zero, List.set_cons_succ]
          refine wpAnyH_ready (rs := [19]) (by kernel_rfl) (by simp) ?_
          refine AllReadyH.cons rfl (fun K hK => ?_) AllReadyH.nil
          have c0 : wc80.cell? ⟨ab44, 0, none⟩ = some (.string ⟨#[]⟩) := HK85.out.cell 0
          have z0 := HK85.out.frozen 0
          have c1 : wc80.cell? ⟨ab44, 1, none⟩ = some (.string ⟨#[]⟩) := HK85.out.cell 1
          have z1 := HK85.out.frozen 1
          have c2 : wc80.cell? ⟨ab44, 2, none⟩ = some (.string ⟨#[]⟩) := HK85.out.cell 2
          have z2 := HK85.out.frozen 2
          have c3 : wc80.cell? ⟨ab44, 3, none⟩ = some (.string ⟨#[]⟩) := HK85.out.cell 3
          have z3 := HK85.out.frozen 3
          have c4 : wc80.cell? ⟨ab44, 4, none⟩ = some (.string ⟨#[]⟩) := HK85.out.cell 4
          have z4 := HK85.out.frozen 4
          have c5 : wc80.cell? ⟨ab44, 5, none⟩ = some (.bool false) := HK85.out.cell 5
          have z5 := HK85.out.frozen 5
          have c6 : wc80.cell? ⟨ab44, 6, none⟩ = some (.string ⟨#[]⟩) := HK85.out.cell 6
          have z6 := HK85.out.frozen 6
          have c7 : wc80.cell? ⟨ab44, 7, none⟩ = some (.bool false) := HK85.out.cell 7
          have z7 := HK85.out.frozen 7
          have HBK := Lib.hid ((((((((HK85.out.set_ 0 (.string ⟨#[104, 116, 116, 112]⟩)).set_ 1 (.string ⟨#[97, 46, 98]⟩)).set_ 2 (.string ⟨#[]⟩)).set_ 3 (.string ⟨#[47, 99]⟩)).set_ 4 (.string ⟨#[]⟩)).set_ 5 (.bool false)).set_ 6 (.string ⟨#[]⟩)).set_ 7 (.bool false))
          have HBL := Lib.hid ((((((((B81.out.setCell (p := ⟨ab44, 0, none⟩) habab44 (.string ⟨#[104, 116, 116, 112]⟩)).setCell (p := ⟨ab44, 1, none⟩) habab44 (.string ⟨#[97, 46, 98]⟩)).setCell (p := ⟨ab44, 2, none⟩) habab44 (.string ⟨#[]⟩)).setCell (p := ⟨ab44, 3, none⟩) habab44 (.string ⟨#[47, 99]⟩)).setCell (p := ⟨ab44, 4, none⟩) habab44 (.string ⟨#[]⟩)).setCell (p := ⟨ab44, 5, none⟩) habab44 (.bool false)).setCell (p := ⟨ab44, 6, none⟩) habab44 (.string ⟨#[]⟩)).setCell (p := ⟨ab44, 7, none⟩) habab44 (.bool false))
          have hne : wsz + 1 ≠ ab44 := by omega
          have HRK := Lib.hid ((((((((HK84.out.set_a (g' := ab44) (i := 0) hne (.string ⟨#[104, 116, 116, 112]⟩)).set_a (g' := ab44) (i := 1) hne (.string ⟨#[97, 46, 98]⟩)).set_a (g' := ab44) (i := 2) hne (.string ⟨#[]⟩)).set_a (g' := ab44) (i := 3) hne (.string ⟨#[47, 99]⟩)).set_a (g' := ab44) (i := 4) hne (.string ⟨#[]⟩)).set_a (g' := ab44) (i := 5) hne (.bool false)).set_a (g' := ab44) (i := 6) hne (.string ⟨#[]⟩)).set_a (g' := ab44) (i := 7) hne (.bool false))
          rw [if_pos (by rfl)]
          simp only [List.getElem_toArray, List.getElem_cons_succ, List.getElem_cons_zero]
          go_simp
          refine hK.out _ _ (((((((((Below.refl ab44 wc80).setCell (p := ⟨ab44, 0, none⟩) (Nat.le_refl _) (.string ⟨#[104, 116, 116, 112]⟩)).setCell (p := ⟨ab44, 1, none⟩) (Nat.le_refl _) (.string ⟨#[97, 46, 98]⟩)).setCell (p := ⟨ab44, 2, none⟩) (Nat.le_refl _) (.string ⟨#[]⟩)).setCell (p := ⟨ab44, 3, none⟩) (Nat.le_refl _) (.string ⟨#[47, 99]⟩)).setCell (p := ⟨ab44, 4, none⟩) (Nat.le_refl _) (.string ⟨#[]⟩)).setCell (p := ⟨ab44, 5, none⟩) (Nat.le_refl _) (.bool false)).setCell (p := ⟨ab44, 6, none⟩) (Nat.le_refl _) (.string ⟨#[]⟩)).setCell (p := ⟨ab44, 7, none⟩) (Nat.le_refl _) (.bool false)) (fun hHeld0 => ?_)
          clear hK K hHeld hHeld0 c0 c1 c2 c3 c4 c5 c6 c7 z0 z1 z2 z3 z4 z5 z6 z7
          try simp only [List.getElem_toArray, List.getElem_cons_succ, List.getElem_cons_zero, Act.put, List.setIfInBounds_toArray, List.set_cons_zero, List.set_cons_succ]
          refine wpAnyH_done (by kernel_rfl) ?_ _
          generalize ((((((((wc80.setCell ⟨ab44, 0, none⟩ (.string ⟨#[104, 116, 116, 112]⟩)).setCell ⟨ab44, 1, none⟩ (.string ⟨#[97, 46, 98]⟩)).setCell ⟨ab44, 2, none⟩ (.string ⟨#[]⟩)).setCell ⟨ab44, 3, none⟩ (.string ⟨#[47, 99]⟩)).setCell ⟨ab44, 4, none⟩ (.string ⟨#[]⟩)).setCell ⟨ab44, 5, none⟩ (.bool false)).setCell ⟨ab44, 6, none⟩ (.string ⟨#[]⟩)).setCell ⟨ab44, 7, none⟩ (.bool false)) = wz at *
          have b0 : wz.cell? ⟨ab44, 0, none⟩ = some (.string ⟨#[104, 116, 116, 112]⟩) := HBK.out.cell 0
          have b1 : wz.cell? ⟨ab44, 1, none⟩ = some (.string ⟨#[97, 46, 98]⟩) := HBK.out.cell 1
          have b2 : wz.cell? ⟨ab44, 2, none⟩ = some (.string ⟨#[]⟩) := HBK.out.cell 2
          have b3 : wz.cell? ⟨ab44, 3, none⟩ = some (.string ⟨#[47, 99]⟩) := HBK.out.cell 3
          have b4 : wz.cell? ⟨ab44, 4, none⟩ = some (.string ⟨#[]⟩) := HBK.out.cell 4
          have b5 : wz.cell? ⟨ab44, 5, none⟩ = some (.bool false) := HBK.out.cell 5
          have b6 : wz.cell? ⟨ab44, 6, none⟩ = some (.string ⟨#[]⟩) := HBK.out.cell 6
          have b7 : wz.cell? ⟨ab44, 7, none⟩ = some (.bool false) := HBK.out.cell 7
          have HGZ := Lib.hid (HGW.out.ext HBL.out)
          go_wp2_with fail
          refine (undot_c wz HGZ.out).mono ?_
          rintro e w2 ⟨rfl, hb⟩
          have HBA := Lib.hid (HBK.out.same (same_below hb) HBK.out.lt)
          have HRA := Lib.hid (HRK.out.same (same_below hb) HRK.out.lt)
          have HBM := Lib.hid (ext_trans HBL.out hb)
          clear hb b0 b1 b2 b3 b4 b5 b6 b7 HBK HRK HBL HGZ
          have d3 : w2.cell? ⟨ab44, 3, none⟩ = some (.string ⟨#[47, 99]⟩) := HBA.out.cell 3
          have f3 := HBA.out.frozen 3
          have HBS : Hid (Blk (w2.setCell ⟨ab44, 3, none⟩ (.string ⟨#[47, 99]⟩)) ab44 80 [.string ⟨#[104, 116, 116, 112]⟩, .string ⟨#[97, 46, 98]⟩, .string ⟨#[]⟩, .string ⟨#[47, 99]⟩, .string ⟨#[]⟩, .bool false, .string ⟨#[]⟩, .bool false]) := Lib.hid (HBA.out.set_ 3 (.string ⟨#[47, 99]⟩))
          have HRS : Hid (Blk (w2.setCell ⟨ab44, 3, none⟩ (.string ⟨#[47, 99]⟩)) (wsz + 1) 80 [.string ⟨#[]⟩, .string ⟨#[]⟩, .string ⟨#[]⟩, .string ⟨#[]⟩, .string ⟨#[]⟩, .bool false, .string ⟨#[]⟩, .bool false]) := Lib.hid (HRA.out.set_a (g' := ab44) (i := 3) hne (.string ⟨#[47, 99]⟩))
          have HBT := Lib.hid (HBM.out.setCell (p := ⟨ab44, 3, none⟩) habab44 (.string ⟨#[47, 99]⟩))
          have m0 : (w2.setCell ⟨ab44, 3, none⟩ (.string ⟨#[47, 99]⟩)).cell? ⟨ab44, 0, none⟩ = some (.string ⟨#[104, 116, 116, 112]⟩) := HBS.out.cell 0
          have r0 : (w2.setCell ⟨ab44, 3, none⟩ (.string ⟨#[47, 99]⟩)).cell? ⟨wsz + 1, 0, none⟩ = some (.string ⟨#[]⟩) := HRS.out.cell 0
          have g0 := HRS.out.frozen 0
          have m1 : (w2.setCell ⟨ab44, 3, none⟩ (.string ⟨#[47, 99]⟩)).cell? ⟨ab44, 1, none⟩ = some (.string ⟨#[97, 46, 98]⟩) := HBS.out.cell 1
          have r1 : (w2.setCell ⟨ab44, 3, none⟩ (.string ⟨#[47, 99]⟩)).cell? ⟨wsz + 1, 1, none⟩ = some (.string ⟨#[]⟩) := HRS.out.cell 1
          have g1 := HRS.out.frozen 1
          have m2 : (w2.setCell ⟨ab44, 3, none⟩ (.string ⟨#[47, 99]⟩)).cell? ⟨ab44, 2, none⟩ = some (.string ⟨#[]⟩) := HBS.out.cell 2
          have r2 : (w2.setCell ⟨ab44, 3, none⟩ (.string ⟨#[47, 99]⟩)).cell? ⟨wsz + 1, 2, none⟩ = some (.string ⟨#[]⟩) := HRS.out.cell 2
          have g2 := HRS.out.frozen 2
          have m3 : (w2.setCell ⟨ab44, 3, none⟩ (.string ⟨#[47, 99]⟩)).cell? ⟨ab44, 3, none⟩ = some (.string ⟨#[47, 99]⟩) := HBS.out.cell 3
          have r3 : (w2.setCell ⟨ab44, 3, none⟩ (.string ⟨#[47, 99]⟩)).cell? ⟨wsz + 1, 3, none⟩ = some (.string ⟨#[]⟩) := HRS.out.cell 3
          have g3 := HRS.out.frozen 3
          have m4 : (w2.setCell ⟨ab44, 3, none⟩ (.string ⟨#[47, 99]⟩)).cell? ⟨ab44, 4, none⟩ = some (.string ⟨#[]⟩) := HBS.out.cell 4
          have r4 : (w2.setCell ⟨ab44, 3, none⟩ (.string ⟨#[47, 99]⟩)).cell? ⟨wsz + 1, 4, none⟩ = some (.string ⟨#[]⟩) := HRS.out.cell 4
          have g4 := HRS.out.frozen 4
          have m5 : (w2.setCell ⟨ab44, 3, none⟩ (.string ⟨#[47, 99]⟩)).cell? ⟨ab44, 5, none⟩ = some (.bool false) := HBS.out.cell 5
          have r5 : (w2.setCell ⟨ab44, 3, none⟩ (.string ⟨#[47, 99]⟩)).cell? ⟨wsz + 1, 5, none⟩ = some (.bool false) := HRS.out.cell 5
          have g5 := HRS.out.frozen 5
          have m6 : (w2.setCell ⟨ab44, 3, none⟩ (.string ⟨#[47, 99]⟩)).cell? ⟨ab44, 6, none⟩ = some (.string ⟨#[]⟩) := HBS.out.cell 6
          have r6 : (w2.setCell ⟨ab44, 3, none⟩ (.string ⟨#[47, 99]⟩)).cell? ⟨wsz + 1, 6, none⟩ = some (.string ⟨#[]⟩) := HRS.out.cell 6
          have g6 := HRS.out.frozen 6
          have m7 : (w2.setCell ⟨ab44, 3, none⟩ (.string ⟨#[47, 99]⟩)).cell? ⟨ab44, 7, none⟩ = some (.bool false) := HBS.out.cell 7
          have r7 : (w2.setCell ⟨ab44, 3, none⟩ (.string ⟨#[47, 99]⟩)).cell? ⟨wsz + 1, 7, none⟩ = some (.bool false) := HRS.out.cell 7
          have g7 := HRS.out.frozen 7
          have HFK := Lib.hid ((((((((HRS.out.set_ 0 (.string ⟨#[104, 116, 116, 112]⟩)).set_ 1 (.string ⟨#[97, 46, 98]⟩)).set_ 2 (.string ⟨#[]⟩)).set_ 3 (.string ⟨#[47, 99]⟩)).set_ 4 (.string ⟨#[]⟩)).set_ 5 (.bool false)).set_ 6 (.string ⟨#[]⟩)).set_ 7 (.bool false))
          have HFL := Lib.hid ((((((((HBT.out.setCell (p := ⟨wsz + 1, 0, none⟩) (by rw [HWS.out]; exact Nat.le_succ _) (.string ⟨#[104, 116, 116, 112]⟩)).setCell (p := ⟨wsz + 1, 1, none⟩) (by rw [HWS.out]; exact Nat.le_succ _) (.string ⟨#[97, 46, 98]⟩)).setCell (p := ⟨wsz + 1, 2, none⟩) (by rw [HWS.out]; exact Nat.le_succ _) (.string ⟨#[]⟩)).setCell (p := ⟨wsz + 1, 3, none⟩) (by rw [HWS.out]; exact Nat.le_succ _) (.string ⟨#[47, 99]⟩)).setCell (p := ⟨wsz + 1, 4, none⟩) (by rw [HWS.out]; exact Nat.le_succ _) (.string ⟨#[]⟩)).setCell (p := ⟨wsz + 1, 5, none⟩) (by rw [HWS.out]; exact Nat.le_succ _) (.bool false)).setCell (p := ⟨wsz + 1, 6, none⟩) (by rw [HWS.out]; exact Nat.le_succ _) (.string ⟨#[]⟩)).setCell (p := ⟨wsz + 1, 7, none⟩) (by rw [HWS.out]; exact Nat.le_succ _) (.bool false))
          go_wp2_with fail
          refine bodyPost_ret (results_cell_row rfl _ _ (wsz + 1) 80 #[.string ⟨#[104, 116, 116, 112]⟩, .string ⟨#[97, 46, 98]⟩, .string ⟨#[]⟩, .string ⟨#[47, 99]⟩, .string ⟨#[]⟩, .bool false, .string ⟨#[]⟩, .bool false] (0, 0) _ rfl HFK.out Tryz.underlying80 rfl addr_info) rfl ?_
          exact ⟨rfl, HFL.out⟩
      · rw [if_pos (by rfl)]
        simp only [List.getElem_toArray, List.getElem_cons_succ, List.getElem_cons_zero]
        go_simp
        have hb := (Below.refl wc13.heap.size wc13).alloc (Nat.le_refl _) (.cells #[.string ⟨#[]⟩, .string ⟨#[]⟩, .string ⟨#[]⟩, .string ⟨#[]⟩, .string ⟨#[]⟩, .bool false, .string ⟨#[]⟩, .bool false] 80)
        have hnb : Blk (wc13.alloc (.cells #[.string ⟨#[]⟩, .string ⟨#[]⟩, .string ⟨#[]⟩, .string ⟨#[]⟩, .string ⟨#[]⟩, .bool false, .string ⟨#[]⟩, .bool false] 80)) wc13.heap.size 80 [.string ⟨#[]⟩, .string ⟨#[]⟩, .string ⟨#[]⟩, .string ⟨#[]⟩, .string ⟨#[]⟩, .bool false, .string ⟨#[]⟩, .bool false] := Blk.new wc13 80 [.string ⟨#[]⟩, .string ⟨#[]⟩, .string ⟨#[]⟩, .string ⟨#[]⟩, .string ⟨#[]⟩, .bool false, .string ⟨#[]⟩, .bool false]
        obtain ⟨wa30, hwa30⟩ : ∃ W, W = wc13.alloc (.cells #[.string ⟨#[]⟩, .string ⟨#[]⟩, .string ⟨#[]⟩, .string ⟨#[]⟩, .string ⟨#[]⟩, .bool false, .string ⟨#[]⟩, .bool false] 80) := ⟨_, rfl⟩
        rw [← hwa30] at hb hnb ⊢
        clear hwa30
        obtain ⟨ab32, hab32⟩ : ∃ b, b = wc13.heap.size := ⟨_, rfl⟩
        rw [← hab32] at hnb ⊢
        have habab32 : w.heap.size ≤ ab32 := by rw [hab32]; exact B14.out.size
        have hgtab32 : wsz + 1 < ab32 := by rw [hab32]; exact HK17.out.lt
        have HK31 := Lib.hid hnb
        clear hnb
        show K _ wa30
        refine hK.out _ _ hb (fun hHeld0 => ?_)
        clear hK K hHeld hHeld0
        refine heldMonoA (S' := fun w' => Below (ab32) wa30 w') (fun w' h => by rw [hab32] at h; exact hb.trans h) _ _ _ _ ?_
        have hHeld : Below (ab32) wa30 wa30 := Below.refl _ _
        have B33 := Lib.hid (ext_trans B14.out hb)
        have G34 := Lib.hid (G15.out.ext hb)
        have HK35 := Lib.hid (HK16.out.same (same_below hb) HK16.out.lt)
        have HK36 := Lib.hid (HK17.out.same (same_below hb) HK17.out.lt)
        clear hb
        try simp only [List.getElem_toArray, List.getElem_cons_succ, List.getElem_cons_zero, Act.put, List.setIfInBounds_toArray, List.set_cons_zero, List.set_cons_succ]
        clear hab32
        refine wpAnyH_ready (rs := [8]) (by kernel_rfl) (by simp) ?_
        refine AllReadyH.cons rfl (fun K hK => ?_) AllReadyH.nil
        rw [if_pos (by rfl)]
        simp only [List.getElem_toArray, List.getElem_cons_succ, List.getElem_cons_zero]
        go_simp
        go_at_call 138
        refine (trimLeft_nil _).mono ?_
        rintro e wc86 ⟨rfl, hw⟩
        have hb : Below wa30.heap.size wa30 wc86 := by rw [hw]; exact Below.refl _ _
        clear hw
        show K _ wc86
        refine hK.out _ _ (hb.mono (Nat.le_of_lt HK31.out.lt)) (fun hHeld0 => ?_)
        clear hK K hHeld hHeld0
        refine heldMonoA (S' := fun w' => Below (ab32) wc86 w') (fun w' h => (hb.mono (Nat.le_of_lt HK31.out.lt)).trans h) _ _ _ _ ?_
        have hHeld : Below (ab32) wc86 wc86 := Below.refl _ _
        have B87 := Lib.hid (ext_trans B33.out hb)
        have G88 := Lib.hid (G34.out.ext hb)
        have HK89 := Lib.hid (HK35.out.same (same_below hb) HK35.out.lt)
        have HK90 := Lib.hid (HK36.out.same (same_below hb) HK36.out.lt)
        have HK91 := Lib.hid (HK31.out.same (same_below hb) HK31.out.lt)
        clear hb
        try simp only [List.getElem_toArray, List.getElem_cons_succ, List.getElem_cons_zero, Act.put, List.setIfInBounds_toArray, List.set_cons_zero, List.set_cons_succ]
        refine wpAnyH_ready (rs := [11]) (by kernel_rfl) (by simp) ?_
        refine AllReadyH.cons rfl (fun K hK => ?_) AllReadyH.nil
        rw [if_pos (by rfl)]
        simp only [List.getElem_toArray, List.getElem_cons_succ, List.getElem_cons_zero]
        go_simp
        go_at_call 139
        refine (normalRow_c _).mono ?_
        rintro e wc92 ⟨rfl, hb⟩
        show K _ wc92
        refine hK.out _ _ (hb.mono (Nat.le_of_lt HK91.out.lt)) (fun hHeld0 => ?_)
        clear hK K hHeld hHeld0
        refine heldMonoA (S' := fun w' => Below (ab32) wc92 w') (fun w' h => (hb.mono (Nat.le_of_lt HK91.out.lt)).trans h) _ _ _ _ ?_
        have hHeld : Below (ab32) wc92 wc92 := Below.refl _ _
        have B93 := Lib.hid (ext_trans B87.out hb)
        have G94 := Lib.hid (G88.out.ext hb)
        have HK95 := Lib.hid (HK89.out.same (same_below hb) HK89.out.lt)
        have HK96 := Lib.hid (HK90.out.same (same_below hb) HK90.out.lt)
        have HK97 := Lib.hid (HK91.out.same (same_below hb) HK91.out.lt)
        clear hb
        try simp only [List.getElem_toArray, List.getElem_cons_succ, List.getElem_cons_zero, Act.put, List.setIfInBounds_toArray, List.set_cons_zero, List.set_cons_succ]
        refine wpAnyH_ready (rs := [14]) (by kernel_rfl) (by simp) ?_
        refine AllReadyH.cons rfl (fun K hK => ?_) AllReadyH.nil
        rw [if_pos (by rfl)]
        simp only [List.getElem_toArray, List.getElem_cons_succ, List.getElem_cons_zero]
        go_simp
        go_at_call 139
        refine (normalRow_nil _).mono ?_
        rintro e wc98 ⟨rfl, hb⟩
        show K _ wc98
        refine hK.out _ _ (hb.mono (Nat.le_of_lt HK97.out.lt)) (fun hHeld0 => ?_)
        clear hK K hHeld hHeld0
        refine heldMonoA (S' := fun w' => Below (ab32) wc98 w') (fun w' h => (hb.mono (Nat.le_of_lt HK97.out.lt)).trans h) _ _ _ _ ?_
        have hHeld : Below (ab32) wc98 wc98 := Below.refl _ _
        have B99 := Lib.hid (ext_trans B93.out hb)
        have G100 := Lib.hid (G94.out.ext hb)
        have HK101 := Lib.hid (HK95.out.same (same_below hb) HK95.out.lt)
        have HK102 := Lib.hid (HK96.out.same (same_below hb) HK96.out.lt)
        have HK103 := Lib.hid (HK97.out.same (same_below hb) HK97.out.lt)
        clear hb
        try simp only [List.getElem_toArray, List.getElem_cons_succ, List.getElem_cons_zero, Act.put, List.setIfInBounds_toArray, List.set_cons_zero, List.set_cons_succ]
        refine wpAnyH_take (i := 17) (v := ?_) rfl (by kernel_rfl) (by kernel_rfl) (by kernel_rfl) (fun _ _ _ h => h) (Or.inl ⟨by rfl, ?_⟩) (by assumption) ?_
        rotate_left
        · (intro w hSw; go_simp; try with_reducible rfl)
        try simp only [List.getElem_toArray, List.getElem_cons_succ, List.getElem_cons_zero, Act.put, List.setIfInBounds_toArray, List.set_cons_zero, List.set_cons_succ]
        refine wpAnyH_ready (rs := [19]) (by kernel_rfl) (by simp) ?_
        refine AllReadyH.cons rfl (fun K hK => ?_) AllReadyH.nil
        have c0 : wc98.cell? ⟨ab32, 0, none⟩ = some (.string ⟨#[]⟩) := HK103.out.cell 0
        have z0 := HK103.out.frozen 0
        have c1 : wc98.cell? ⟨ab32, 1, none⟩ = some (.string ⟨#[]⟩) := HK103.out.cell 1
        have z1 := HK103.out.frozen 1
        have c2 : wc98.cell? ⟨ab32, 2, none⟩ = some (.string ⟨#[]⟩) := HK103.out.cell 2
        have z2 := HK103.out.frozen 2
        have c3 : wc98.cell? ⟨ab32, 3, none⟩ = some (.string ⟨#[]⟩) := HK103.out.cell 3
        have z3 := HK103.out.frozen 3
        have c4 : wc98.cell? ⟨ab32, 4, none⟩ = some (.string ⟨#[]⟩) := HK103.out.cell 4
        have z4 := HK103.out.frozen 4
        have c5 : wc98.cell? ⟨ab32, 5, none⟩ = some (.bool false) := HK103.out.cell 5
        have z5 := HK103.out.frozen 5
        have c6 : wc98.cell? ⟨ab32, 6, none⟩ = some (.string ⟨#[]⟩) := HK103.out.cell 6
        have z6 := HK103.out.frozen 6
        have c7 : wc98.cell? ⟨ab32, 7, none⟩ = some (.bool false) := HK103.out.cell 7
        have z7 := HK103.out.frozen 7
        have HBK := Lib.hid ((((((((HK103.out.set_ 0 (.string ⟨#[104, 116, 116, 112]⟩)).set_ 1 (.string ⟨#[97, 46, 98]⟩)).set_ 2 (.string ⟨#[]⟩)).set_ 3 (.string ⟨#[47, 99]⟩)).set_ 4 (.string ⟨#[]⟩)).set_ 5 (.bool false)).set_ 6 (.string ⟨#[]⟩)).set_ 7 (.bool false))
        have HBL := Lib.hid ((((((((B99.out.setCell (p := ⟨ab32, 0, none⟩) habab32 (.string ⟨#[104, 116, 116, 112]⟩)).setCell (p := ⟨ab32, 1, none⟩) habab32 (.string ⟨#[97, 46, 98]⟩)).setCell (p := ⟨ab32, 2, none⟩) habab32 (.string ⟨#[]⟩)).setCell (p := ⟨ab32, 3, none⟩) habab32 (.string ⟨#[47, 99]⟩)).setCell (p := ⟨ab32, 4, none⟩) habab32 (.string ⟨#[]⟩)).setCell (p := ⟨ab32, 5, none⟩) habab32 (.bool false)).setCell (p := ⟨ab32, 6, none⟩) habab32 (.string ⟨#[]⟩)).setCell (p := ⟨ab32, 7, none⟩) habab32 (.bool false))
        have hne : wsz + 1 ≠ ab32 := by omega
        have HRK := Lib.hid ((((((((HK102.out.set_a (g' := ab32) (i := 0) hne (.string ⟨#[104, 116, 116, 112]⟩)).set_a (g' := ab32) (i := 1) hne (.string ⟨#[97, 46, 98]⟩)).set_a (g' := ab32) (i := 2) hne (.string ⟨#[]⟩)).set_a (g' := ab32) (i := 3) hne (.string ⟨#[47, 99]⟩)).set_a (g' := ab32) (i := 4) hne (.string ⟨#[]⟩)).set_a (g' := ab32) (i := 5) hne (.bool false)).set_a (g' := ab32) (i := 6) hne (.string ⟨#[]⟩)).set_a (g' := ab32) (i := 7) hne (.bool false))
        rw [if_pos (by rfl)]
        simp only [List.getElem_toArray, List.getElem_cons_succ, List.getElem_cons_zero]
        go_simp
        refine hK.out _ _ (((((((((Below.refl ab32 wc98).setCell (p := ⟨ab32, 0, none⟩) (Nat.le_refl _) (.string ⟨#[104, 116, 116, 112]⟩)).setCell (p := ⟨ab32, 1, none⟩) (Nat.le_refl _) (.string ⟨#[97, 46, 98]⟩)).setCell (p := ⟨ab32, 2, none⟩) (Nat.le_refl _) (.string ⟨#[]⟩)).setCell (p := ⟨ab32, 3, none⟩) (Nat.le_refl _) (.string ⟨#[47, 99]⟩)).setCell (p := ⟨ab32, 4, none⟩) (Nat.le_refl _) (.string ⟨#[]⟩)).setCell (p := ⟨ab32, 5, none⟩) (Nat.le_refl _) (.bool false)).setCell (p := ⟨ab32, 6, none⟩) (Nat.le_refl _) (.string ⟨#[]⟩)).setCell (p := ⟨ab32, 7, none⟩) (Nat.le_refl _) (.bool false)) (fun hHeld0 => ?_)
        clear hK K hHeld hHeld0 c0 c1 c2 c3 c4 c5 c6 c7 z0 z1 z2 z3 z4 z5 z6 z7
        try simp only [List.getElem_toArray, List.getElem_cons_succ, List.getElem_cons_zero, Act.put, List.setIfInBounds_toArray, List.set_cons_zero, List.set_cons_succ]
        refine wpAnyH_done (by kernel_rfl) ?_ _
        generalize ((((((((wc98.setCell ⟨ab32, 0, none⟩ (.string ⟨#[104, 116, 116, 112]⟩)).setCell ⟨ab32, 1, none⟩ (.string ⟨#[97, 46, 98]⟩)).setCell ⟨ab32, 2, none⟩ (.string ⟨#[]⟩)).setCell ⟨ab32, 3, none⟩ (.string ⟨#[47, 99]⟩)).setCell ⟨ab32, 4, none⟩ (.string ⟨#[]⟩)).setCell ⟨ab32, 5, none⟩ (.bool false)).setCell ⟨ab32, 6, none⟩ (.string ⟨#[]⟩)).setCell ⟨ab32, 7, none⟩ (.bool false)) = wz at *
        have b0 : wz.cell? ⟨ab32, 0, none⟩ = some (.string ⟨#[104, 116, 116, 112]⟩) := HBK.out.cell 0
        have b1 : wz.cell? ⟨ab32, 1, none⟩ = some (.string ⟨#[97, 46, 98]⟩) := HBK.out.cell 1
        have b2 : wz.cell? ⟨ab32, 2, none⟩ = some (.string ⟨#[]⟩) := HBK.out.cell 2
        have b3 : wz.cell? ⟨ab32, 3, none⟩ = some (.string ⟨#[47, 99]⟩) := HBK.out.cell 3
        have b4 : wz.cell? ⟨ab32, 4, none⟩ = some (.string ⟨#[]⟩) := HBK.out.cell 4
        have b5 : wz.cell? ⟨ab32, 5, none⟩ = some (.bool false) := HBK.out.cell 5
        have b6 : wz.cell? ⟨ab32, 6, none⟩ = some (.string ⟨#[]⟩) := HBK.out.cell 6
        have b7 : wz.cell? ⟨ab32, 7, none⟩ = some (.bool false) := HBK.out.cell 7
        have HGZ := Lib.hid (HGW.out.ext HBL.out)
        go_wp2_with fail
        refine (undot_c wz HGZ.out).mono ?_
        rintro e w2 ⟨rfl, hb⟩
        have HBA := Lib.hid (HBK.out.same (same_below hb) HBK.out.lt)
        have HRA := Lib.hid (HRK.out.same (same_below hb) HRK.out.lt)
        have HBM := Lib.hid (ext_trans HBL.out hb)
        clear hb b0 b1 b2 b3 b4 b5 b6 b7 HBK HRK HBL HGZ
        have d3 : w2.cell? ⟨ab32, 3, none⟩ = some (.string ⟨#[47, 99]⟩) := HBA.out.cell 3
        have f3 := HBA.out.frozen 3
        have HBS : Hid (Blk (w2.setCell ⟨ab32, 3, none⟩ (.string ⟨#[47, 99]⟩)) ab32 80 [.string ⟨#[104, 116, 116, 112]⟩, .string ⟨#[97, 46, 98]⟩, .string ⟨#[]⟩, .string ⟨#[47, 99]⟩, .string ⟨#[]⟩, .bool false, .string ⟨#[]⟩, .bool false]) := Lib.hid (HBA.out.set_ 3 (.string ⟨#[47, 99]⟩))
        have HRS : Hid (Blk (w2.setCell ⟨ab32, 3, none⟩ (.string ⟨#[47, 99]⟩)) (wsz + 1) 80 [.string ⟨#[]⟩, .string ⟨#[]⟩, .string ⟨#[]⟩, .string ⟨#[]⟩, .string ⟨#[]⟩, .bool false, .string ⟨#[]⟩, .bool false]) := Lib.hid (HRA.out.set_a (g' := ab32) (i := 3) hne (.string ⟨#[47, 99]⟩))
        have HBT := Lib.hid (HBM.out.setCell (p := ⟨ab32, 3, none⟩) habab32 (.string ⟨#[47, 99]⟩))
        have m0 : (w2.setCell ⟨ab32, 3, none⟩ (.string ⟨#[47, 99]⟩)).cell? ⟨ab32, 0, none⟩ = some (.string ⟨#[104, 116, 116, 112]⟩) := HBS.out.cell 0
        have r0 : (w2.setCell ⟨ab32, 3, none⟩ (.string ⟨#[47, 99]⟩)).cell? ⟨wsz + 1, 0, none⟩ = some (.string ⟨#[]⟩) := HRS.out.cell 0
        have g0 := HRS.out.frozen 0
        have m1 : (w2.setCell ⟨ab32, 3, none⟩ (.string ⟨#[47, 99]⟩)).cell? ⟨ab32, 1, none⟩ = some (.string ⟨#[97, 46, 98]⟩) := HBS.out.cell 1
        have r1 : (w2.setCell ⟨ab32, 3, none⟩ (.string ⟨#[47, 99]⟩)).cell? ⟨wsz + 1, 1, none⟩ = some (.string ⟨#[]⟩) := HRS.out.cell 1
        have g1 := HRS.out.frozen 1
        have m2 : (w2.setCell ⟨ab32, 3, none⟩ (.string ⟨#[47, 99]⟩)).cell? ⟨ab32, 2, none⟩ = some (.string ⟨#[]⟩) := HBS.out.cell 2
        have r2 : (w2.setCell ⟨ab32, 3, none⟩ (.string ⟨#[47, 99]⟩)).cell? ⟨wsz + 1, 2, none⟩ = some (.string ⟨#[]⟩) := HRS.out.cell 2
        have g2 := HRS.out.frozen 2
        have m3 : (w2.setCell ⟨ab32, 3, none⟩ (.string ⟨#[47, 99]⟩)).cell? ⟨ab32, 3, none⟩ = some (.string ⟨#[47, 99]⟩) := HBS.out.cell 3
        have r3 : (w2.setCell ⟨ab32, 3, none⟩ (.string ⟨#[47, 99]⟩)).cell? ⟨wsz + 1, 3, none⟩ = some (.string ⟨#[]⟩) := HRS.out.cell 3
        have g3 := HRS.out.frozen 3
        have m4 : (w2.setCell ⟨ab32, 3, none⟩ (.string ⟨#[47, 99]⟩)).cell? ⟨ab32, 4, none⟩ = some (.string ⟨#[]⟩) := HBS.out.cell 4
        have r4 : (w2.setCell ⟨ab32, 3, none⟩ (.string ⟨#[47, 99]⟩)).cell? ⟨wsz + 1, 4, none⟩ = some (.string ⟨#[]⟩) := HRS.out.cell 4
        have g4 := HRS.out.frozen 4
        have m5 : (w2.setCell ⟨ab32, 3, none⟩ (.string ⟨#[47, 99]⟩)).cell? ⟨ab32, 5, none⟩ = some (.bool false) := HBS.out.cell 5
        have r5 : (w2.setCell ⟨ab32, 3, none⟩ (.string ⟨#[47, 99]⟩)).cell? ⟨wsz + 1, 5, none⟩ = some (.bool false) := HRS.out.cell 5
        have g5 := HRS.out.frozen 5
        have m6 : (w2.setCell ⟨ab32, 3, none⟩ (.string ⟨#[47, 99]⟩)).cell? ⟨ab32, 6, none⟩ = some (.string ⟨#[]⟩) := HBS.out.cell 6
        have r6 : (w2.setCell ⟨ab32, 3, none⟩ (.string ⟨#[47, 99]⟩)).cell? ⟨wsz + 1, 6, none⟩ = some (.string ⟨#[]⟩) := HRS.out.cell 6
        have g6 := HRS.out.frozen 6
        have m7 : (w2.setCell ⟨ab32, 3, none⟩ (.string ⟨#[47, 99]⟩)).cell? ⟨ab32, 7, none⟩ = some (.bool false) := HBS.out.cell 7
        have r7 : (w2.setCell ⟨ab32, 3, none⟩ (.string ⟨#[47, 99]⟩)).cell? ⟨wsz + 1, 7, none⟩ = some (.bool false) := HRS.out.cell 7
        have g7 := HRS.out.frozen 7
        have HFK := Lib.hid ((((((((HRS.out.set_ 0 (.string ⟨#[104, 116, 116, 112]⟩)).set_ 1 (.string ⟨#[97, 46, 98]⟩)).set_ 2 (.string ⟨#[]⟩)).set_ 3 (.string ⟨#[47, 99]⟩)).set_ 4 (.string ⟨#[]⟩)).set_ 5 (.bool false)).set_ 6 (.string ⟨#[]⟩)).set_ 7 (.bool false))
        have HFL := Lib.hid ((((((((HBT.out.setCell (p := ⟨wsz + 1, 0, none⟩) (by rw [HWS.out]; exact Nat.le_succ _) (.string ⟨#[104, 116, 116, 112]⟩)).setCell (p := ⟨wsz + 1, 1, none⟩) (by rw [HWS.out]; exact Nat.le_succ _) (.string ⟨#[97, 46, 98]⟩)).setCell (p := ⟨wsz + 1, 2, none⟩) (by rw [HWS.out]; exact Nat.le_succ _) (.string ⟨#[]⟩)).setCell (p := ⟨wsz + 1, 3, none⟩) (by rw [HWS.out]; exact Nat.le_succ _) (.string ⟨#[47, 99]⟩)).setCell (p := ⟨wsz + 1, 4, none⟩) (by rw [HWS.out]; exact Nat.le_succ _) (.string ⟨#[]⟩)).setCell (p := ⟨wsz + 1, 5, none⟩) (by rw [HWS.out]; exact Nat.le_succ _) (.bool false)).setCell (p := ⟨wsz + 1, 6, none⟩) (by rw [HWS.out]; exact Nat.le_succ _) (.string ⟨#[]⟩)).setCell (p := ⟨wsz + 1, 7, none⟩) (by rw [HWS.out]; exact Nat.le_succ _) (.bool false))
        go_wp2_with fail
        refine bodyPost_ret (results_cell_row rfl _ _ (wsz + 1) 80 #[.string ⟨#[104, 116, 116, 112]⟩, .string ⟨#[97, 46, 98]⟩, .string ⟨#[]⟩, .string ⟨#[47, 99]⟩, .string ⟨#[]⟩, .bool false, .string ⟨#[]⟩, .bool false] (0, 0) _ rfl HFK.out Tryz.underlying80 rfl addr_info) rfl ?_
        exact ⟨rfl, HFL.out⟩
    · rw [if_pos (by rfl)]
      simp only [List.getElem_toArray, List.getElem_cons_succ, List.getElem_cons_zero]
      go_simp
      have hb := (Below.refl wc1.heap.size wc1).alloc (Nat.le_refl _) (.cells #[.string ⟨#[]⟩, .string ⟨#[]⟩, .string ⟨#[]⟩, .string ⟨#[]⟩, .string ⟨#[]⟩, .bool false, .string ⟨#[]⟩, .bool false] 80)
      have hnb : Blk (wc1.alloc (.cells #[.string ⟨#[]⟩, .string ⟨#[]⟩, .string ⟨#[]⟩, .string ⟨#[]⟩, .string ⟨#[]⟩, .bool false, .string ⟨#[]⟩, .bool false] 80)) wc1.heap.size 80 [.string ⟨#[]⟩, .string ⟨#[]⟩, .string ⟨#[]⟩, .string ⟨#[]⟩, .string ⟨#[]⟩, .bool false, .string ⟨#[]⟩, .bool false] := Blk.new wc1 80 [.string ⟨#[]⟩, .string ⟨#[]⟩, .string ⟨#[]⟩, .string ⟨#[]⟩, .string ⟨#[]⟩, .bool false, .string ⟨#[]⟩, .bool false]
      obtain ⟨wa18, hwa18⟩ : ∃ W, W = wc1.alloc (.cells #[.string ⟨#[]⟩, .string ⟨#[]⟩, .string ⟨#[]⟩, .string ⟨#[]⟩, .string ⟨#[]⟩, .bool false, .string ⟨#[]⟩, .bool false] 80) := ⟨_, rfl⟩
      rw [← hwa18] at hb hnb ⊢
      clear hwa18
      obtain ⟨ab20, hab20⟩ : ∃ b, b = wc1.heap.size := ⟨_, rfl⟩
      rw [← hab20] at hnb ⊢
      have habab20 : w.heap.size ≤ ab20 := by rw [hab20]; exact B2.out.size
      have hgtab20 : wsz + 1 < ab20 := by rw [hab20]; exact HK5.out.lt
      have HK19 := Lib.hid hnb
      clear hnb
      show K _ wa18
      refine hK.out _ _ hb (fun hHeld0 => ?_)
      clear hK K hHeld hHeld0
      refine heldMonoA (S' := fun w' => Below (ab20) wa18 w') (fun w' h => by rw [hab20] at h; exact hb.trans h) _ _ _ _ ?_
      have hHeld : Below (ab20) wa18 wa18 := Below.refl _ _
      have B21 := Lib.hid (ext_trans B2.out hb)
      have G22 := Lib.hid (G3.out.ext hb)
      have HK23 := Lib.hid (HK4.out.same (same_below hb) HK4.out.lt)
      have HK24 := Lib.hid (HK5.out.same (same_below hb) HK5.out.lt)
      clear hb
      try simp only [List.getElem_toArray, List.getElem_cons_succ, List.getElem_cons_zero, Act.put, List.setIfInBounds_toArray, List.set_cons_zero, List.set_cons_succ]
      clear hab20
      refine wpAnyH_ready (rs := [5]) (by kernel_rfl) (by simp) ?_
      refine AllReadyH.cons rfl (fun K hK => ?_) AllReadyH.nil
      rw [if_pos (by rfl)]
      simp only [List.getElem_toArray, List.getElem_cons_succ, List.getElem_cons_zero]
      go_simp
      go_at_call 82
      refine (small_ab _).mono ?_
      rintro e wc104 ⟨rfl, hb⟩
      show K _ wc104
      refine hK.out _ _ (hb.mono (Nat.le_of_lt HK19.out.lt)) (fun hHeld0 => ?_)
      clear hK K hHeld hHeld0
      refine heldMonoA (S' := fun w' => Below (ab20) wc104 w') (fun w' h => (hb.mono (Nat.le_of_lt HK19.out.lt)).trans h) _ _ _ _ ?_
      have hHeld : Below (ab20) wc104 wc104 := Below.refl _ _
      have B105 := Lib.hid (ext_trans B21.out hb)
      have G106 := Lib.hid (G22.out.ext hb)
      have HK107 := Lib.hid (HK23.out.same (same_below hb) HK23.out.lt)
      have HK108 := Lib.hid (HK24.out.same (same_below hb) HK24.out.lt)
      have HK109 := Lib.hid (HK19.out.same (same_below hb) HK19.out.lt)
      clear hb
      try simp only [List.getElem_toArray, List.getElem_cons_succ, List.getElem_cons_zero, Act.put, List.setIfInBounds_toArray, List.set_cons_zero, List.set_cons_succ]
      refine wpAnyH_ready (rs := [8]) (by kernel_rfl) (by simp) ?_
      refine AllReadyH.cons rfl (fun K hK => ?_) AllReadyH.nil
      rw [if_pos (by rfl)]
      simp only [List.getElem_toArray, List.getElem_cons_succ, List.getElem_cons_zero]
      go_simp
      go_at_call 138
      refine (trimLeft_nil _).mono ?_
      rintro e wc110 ⟨rfl, hw⟩
      have hb : Below wc104.heap.size wc104 wc110 := by rw [hw]; exact Below.refl _ _
      clear hw
      show K _ wc110
      refine hK.out _ _ (hb.mono (Nat.le_of_lt HK109.out.lt)) (fun hHeld0 => ?_)
      clear hK K hHeld hHeld0
      refine heldMonoA (S' := fun w' => Below (ab20) wc110 w') (fun w' h => (hb.mono (Nat.le_of_lt HK109.out.lt)).trans h) _ _ _ _ ?_
      have hHeld : Below (ab20) wc110 wc110 := Below.refl _ _
      have B111 := Lib.hid (ext_trans B105.out hb)
      have G112 := Lib.hid (G106.out.ext hb)
      have HK113 := Lib.hid (HK107.out.same (same_below hb) HK107.out.lt)
      have HK114 := Lib.hid (HK108.out.same (same_below hb) HK108.out.lt)
      have HK115 := Lib.hid (HK109.out.same (same_below hb) HK109.out.lt)
      clear hb
      try simp only [List.getElem_toArray, List.getElem_cons_succ, List.getElem_cons_zero, Act.put, List.setIfInBounds_toArray, List.set_cons_zero, List.set_cons_succ]
      refine wpAnyH_ready (rs := [11]) (by kernel_rfl) (by simp) ?_
      refine AllReadyH.cons rfl (fun K hK => ?_) AllReadyH.nil
      rw [if_pos (by rfl)]
      simp only [List.getElem_toArray, List.getElem_cons_succ, List.getElem_cons_zero]
      go_simp
      go_at_call 139
      refine (normalRow_c _).mono ?_
      rintro e wc116 ⟨rfl, hb⟩
      show K _ wc116
      refine hK.out _ _ (hb.mono (Nat.le_of_lt HK115.out.lt)) (fun hHeld0 => ?_)
      clear hK K hHeld hHeld0
      refine heldMonoA (S' := fun w' => Below (ab20) wc116 w') (fun w' h => (hb.mono (Nat.le_of_lt HK115.out.lt)).trans h) _ _ _ _ ?_
      have hHeld : Below (ab20) wc116 wc116 := Below.refl _ _
      have B117 := Lib.hid (ext_trans B111.out hb)
      have G118 := Lib.hid (G112.out.ext hb)
      have HK119 := Lib.hid (HK113.out.same (same_below hb) HK113.out.lt)
      have HK120 := Lib.hid (HK114.out.same (same_below hb) HK114.out.lt)
      have HK121 := Lib.hid (HK115.out.same (same_below hb) HK115.out.lt)
      clear hb
      try simp only [List.getElem_toArray, List.getElem_cons_succ, List.getElem_cons_zero, Act.put, List.setIfInBounds_toArray, List.set_cons_zero, List.set_cons_succ]
      refine wpAnyH_ready (rs := [14]) (by kernel_rfl) (by simp) ?_
      refine AllReadyH.cons rfl (fun K hK => ?_) AllReadyH.nil
      rw [if_pos (by rfl)]
      simp only [List.getElem_toArray, List.getElem_cons_succ, List.getElem_cons_zero]
      go_simp
      go_at_call 139
      refine (normalRow_nil _).mono ?_
      rintro e wc122 ⟨rfl, hb⟩
      show K _ wc122
      refine hK.out _ _ (hb.mono (Nat.le_of_lt HK121.out.lt)) (fun hHeld0 => ?_)
      clear hK K hHeld hHeld0
      refine heldMonoA (S' := fun w' => Below (ab20) wc122 w') (fun w' h => (hb.mono (Nat.le_of_lt HK121.out.lt)).trans h) _ _ _ _ ?_
      have hHeld : Below (ab20) wc122 wc122 := Below.refl _ _
      have B123 := Lib.hid (ext_trans B117.out hb)
      have G124 := Lib.hid (G118.out.ext hb)
      have HK125 := Lib.hid (HK119.out.same (same_below hb) HK119.out.lt)
      have HK126 := Lib.hid (HK120.out.same (same_below hb) HK120.out.lt)
      have HK127 := Lib.hid (HK121.out.same (same_below hb) HK121.out.lt)
      clear hb
      try simp only [List.getElem_toArray, List.getElem_cons_succ, List.getElem_cons_zero, Act.put, List.setIfInBounds_toArray, List.set_cons_zero, List.set_cons_succ]
      refine wpAnyH_take (i := 17) (v := ?_) rfl (by kernel_rfl) (by kernel_rfl) (by kernel_rfl) (fun _ _ _ h => h) (Or.inl ⟨by rfl, ?_⟩) (by assumption) ?_
      rotate_left
      · (intro w hSw; go_simp; try with_reducible rfl)
      try simp only [List.getElem_toArray, List.getElem_cons_succ, List.getElem_cons_zero, Act.put, List.setIfInBounds_toArray, List.set_cons_zero, List.set_cons_succ]
      refine wpAnyH_ready (rs := [19]) (by kernel_rfl) (by simp) ?_
      refine AllReadyH.cons rfl (fun K hK => ?_) AllReadyH.nil
      have c0 : wc122.cell? ⟨ab20, 0, none⟩ = some (.string ⟨#[]⟩) := HK127.out.cell 0
      have z0 := HK127.out.frozen 0
      have c1 : wc122.cell? ⟨ab20, 1, none⟩ = some (.string ⟨#[]⟩) := HK127.out.cell 1
      have z1 := HK127.out.frozen 1
      have c2 : wc122.cell? ⟨ab20, 2, none⟩ = some (.string ⟨#[]⟩) := HK127.out.cell 2
      have z2 := HK127.out.frozen 2
      have c3 : wc122.cell? ⟨ab20, 3, none⟩ = some (.string ⟨#[]⟩) := HK127.out.cell 3
      have z3 := HK127.out.frozen 3
      have c4 : wc122.cell? ⟨ab20, 4, none⟩ = some (.string ⟨#[]⟩) := HK127.out.cell 4
      have z4 := HK127.out.frozen 4
      have c5 : wc122.cell? ⟨ab20, 5, none⟩ = some (.bool false) := HK127.out.cell 5
      have z5 := HK127.out.frozen 5
      have c6 : wc122.cell? ⟨ab20, 6, none⟩ = some (.string ⟨#[]⟩) := HK127.out.cell 6
      have z6 := HK127.out.frozen 6
      have c7 : wc122.cell? ⟨ab20, 7, none⟩ = some (.bool false) := HK127.out.cell 7
      have z7 := HK127.out.frozen 7
      have HBK := Lib.hid ((((((((HK127.out.set_ 0 (.string ⟨#[104, 116, 116, 112]⟩)).set_ 1 (.string ⟨#[97, 46, 98]⟩)).set_ 2 (.string ⟨#[]⟩)).set_ 3 (.string ⟨#[47, 99]⟩)).set_ 4 (.string ⟨#[]⟩)).set_ 5 (.bool false)).set_ 6 (.string ⟨#[]⟩)).set_ 7 (.bool false))
      have HBL := Lib.hid ((((((((B123.out.setCell (p := ⟨ab20, 0, none⟩) habab20 (.string ⟨#[104, 116, 116, 112]⟩)).setCell (p := ⟨ab20, 1, none⟩) habab20 (.string ⟨#[97, 46, 98]⟩)).setCell (p := ⟨ab20, 2, none⟩) habab20 (.string ⟨#[]⟩)).setCell (p := ⟨ab20, 3, none⟩) habab20 (.string ⟨#[47, 99]⟩)).setCell (p := ⟨ab20, 4, none⟩) habab20 (.string ⟨#[]⟩)).setCell (p := ⟨ab20, 5, none⟩) habab20 (.bool false)).setCell (p := ⟨ab20, 6, none⟩) habab20 (.string ⟨#[]⟩)).setCell (p := ⟨ab20, 7, none⟩) habab20 (.bool false))
      have hne : wsz + 1 ≠ ab20 := by omega
      have HRK := Lib.hid ((((((((HK126.out.set_a (g' := ab20) (i := 0) hne (.string ⟨#[104, 116, 116, 112]⟩)).set_a (g' := ab20) (i := 1) hne (.string ⟨#[97, 46, 98]⟩)).set_a (g' := ab20) (i := 2) hne (.string ⟨#[]⟩)).set_a (g' := ab20) (i := 3) hne (.string ⟨#[47, 99]⟩)).set_a (g' := ab20) (i := 4) hne (.string ⟨#[]⟩)).set_a (g' := ab20) (i := 5) hne (.bool false)).set_a (g' := ab20) (i := 6) hne (.string ⟨#[]⟩)).set_a (g' := ab20) (i := 7) hne (.bool false))
      rw [if_pos (by rfl)]
      simp only [List.getElem_toArray, List.getElem_cons_succ, List.getElem_cons_zero]
      go_simp
      refine hK.out _ _ (((((((((Below.refl ab20 wc122).setCell (p := ⟨ab20, 0, none⟩) (Nat.le_refl _) (.string ⟨#[104, 116, 116, 112]⟩)).setCell (p := ⟨ab20, 1, none⟩) (Nat.le_refl _) (.string ⟨#[97, 46, 98]⟩)).setCell (p := ⟨ab20, 2, none⟩) (Nat.le_refl _) (.string ⟨#[]⟩)).setCell (p := ⟨ab20, 3, none⟩) (Nat.le_refl _) (.string ⟨#[47, 99]⟩)).setCell (p := ⟨ab20, 4, none⟩) (Nat.le_refl _) (.string ⟨#[]⟩)).setCell (p := ⟨ab20, 5, none⟩) (Nat.le_refl _) (.bool false)).setCell (p := ⟨ab20, 6, none⟩) (Nat.le_refl _) (.string ⟨#[]⟩)).setCell (p := ⟨ab20, 7, none⟩) (Nat.le_refl _) (.bool false)) (fun hHeld0 => ?_)
      clear hK K hHeld hHeld0 c0 c1 c2 c3 c4 c5 c6 c7 z0 z1 z2 z3 z4 z5 z6 z7
      try simp only [List.getElem_toArray, List.getElem_cons_succ, List.getElem_cons_zero, Act.put, List.setIfInBounds_toArray, List.set_cons_zero, List.set_cons_succ]
      refine wpAnyH_done (by kernel_rfl) ?_ _
      generalize ((((((((wc122.setCell ⟨ab20, 0, none⟩ (.string ⟨#[104, 116, 116, 112]⟩)).setCell ⟨ab20, 1, none⟩ (.string ⟨#[97, 46, 98]⟩)).setCell ⟨ab20, 2, none⟩ (.string ⟨#[]⟩)).setCell ⟨ab20, 3, none⟩ (.string ⟨#[47, 99]⟩)).setCell ⟨ab20, 4, none⟩ (.string ⟨#[]⟩)).setCell ⟨ab20, 5, none⟩ (.bool false)).setCell ⟨ab20, 6, none⟩ (.string ⟨#[]⟩)).setCell ⟨ab20, 7, none⟩ (.bool false)) = wz at *
      have b0 : wz.cell? ⟨ab20, 0, none⟩ = some (.string ⟨#[104, 116, 116, 112]⟩) := HBK.out.cell 0
      have b1 : wz.cell? ⟨ab20, 1, none⟩ = some (.string ⟨#[97, 46, 98]⟩) := HBK.out.cell 1
      have b2 : wz.cell? ⟨ab20, 2, none⟩ = some (.string ⟨#[]⟩) := HBK.out.cell 2
      have b3 : wz.cell? ⟨ab20, 3, none⟩ = some (.string ⟨#[47, 99]⟩) := HBK.out.cell 3
      have b4 : wz.cell? ⟨ab20, 4, none⟩ = some (.string ⟨#[]⟩) := HBK.out.cell 4
      have b5 : wz.cell? ⟨ab20, 5, none⟩ = some (.bool false) := HBK.out.cell 5
      have b6 : wz.cell? ⟨ab20, 6, none⟩ = some (.string ⟨#[]⟩) := HBK.out.cell 6
      have b7 : wz.cell? ⟨ab20, 7, none⟩ = some (.bool false) := HBK.out.cell 7
      have HGZ := Lib.hid (HGW.out.ext HBL.out)
      go_wp2_with fail
      refine (undot_c wz HGZ.out).mono ?_
      rintro e w2 ⟨rfl, hb⟩
      have HBA := Lib.hid (HBK.out.same (same_below hb) HBK.out.lt)
      have HRA := Lib.hid (HRK.out.same (same_below hb) HRK.out.lt)
      have HBM := Lib.hid (ext_trans HBL.out hb)
      clear hb b0 b1 b2 b3 b4 b5 b6 b7 HBK HRK HBL HGZ
      have d3 : w2.cell? ⟨ab20, 3, none⟩ = some (.string ⟨#[47, 99]⟩) := HBA.out.cell 3
      have f3 := HBA.out.frozen 3
      have HBS : Hid (Blk (w2.setCell ⟨ab20, 3, none⟩ (.string ⟨#[47, 99]⟩)) ab20 80 [.string ⟨#[104, 116, 116, 112]⟩, .string ⟨#[97, 46, 98]⟩, .string ⟨#[]⟩, .string ⟨#[47, 99]⟩, .string ⟨#[]⟩, .bool false, .string ⟨#[]⟩, .bool false]) := Lib.hid (HBA.out.set_ 3 (.string ⟨#[47, 99]⟩))
      have HRS : Hid (Blk (w2.setCell ⟨ab20, 3, none⟩ (.string ⟨#[47, 99]⟩)) (wsz + 1) 80 [.string ⟨#[]⟩, .string ⟨#[]⟩, .string ⟨#[]⟩, .string ⟨#[]⟩, .string ⟨#[]⟩, .bool false, .string ⟨#[]⟩, .bool false]) := Lib.hid (HRA.out.set_a (g' := ab20) (i := 3) hne (.string ⟨#[47, 99]⟩))
      have HBT := Lib.hid (HBM.out.setCell (p := ⟨ab20, 3, none⟩) habab20 (.string ⟨#[47, 99]⟩))
      have m0 : (w2.setCell ⟨ab20, 3, none⟩ (.string ⟨#[47, 99]⟩)).cell? ⟨ab20, 0, none⟩ = some (.string ⟨#[104, 116, 116, 112]⟩) := HBS.out.cell 0
      have r0 : (w2.setCell ⟨ab20, 3, none⟩ (.string ⟨#[47, 99]⟩)).cell? ⟨wsz + 1, 0, none⟩ = some (.string ⟨#[]⟩) := HRS.out.cell 0
      have g0 := HRS.out.frozen 0
      have m1 : (w2.setCell ⟨ab20, 3, none⟩ (.string ⟨#[47, 99]⟩)).cell? ⟨ab20, 1, none⟩ = some (.string ⟨#[97, 46, 98]⟩) := HBS.out.cell 1
      have r1 : (w2.setCell ⟨ab20, 3, none⟩ (.string ⟨#[47, 99]⟩)).cell? ⟨wsz + 1, 1, none⟩ = some (.string ⟨#[]⟩) := HRS.out.cell 1
      have g1 := HRS.out.frozen 1
      have m2 : (w2.setCell ⟨ab20, 3, none⟩ (.string ⟨#[47, 99]⟩)).cell? ⟨ab20, 2, none⟩ = some (.string ⟨#[]⟩) := HBS.out.cell 2
      have r2 : (w2.setCell ⟨ab20, 3, none⟩ (.string ⟨#[47, 99]⟩)).cell? ⟨wsz + 1, 2, none⟩ = some (.string ⟨#[]⟩) := HRS.out.cell 2
      have g2 := HRS.out.frozen 2
      have m3 : (w2.setCell ⟨ab20, 3, none⟩ (.string ⟨#[47, 99]⟩)).cell? ⟨ab20, 3, none⟩ = some (.string ⟨#[47, 99]⟩) := HBS.out.cell 3
      have r3 : (w2.setCell ⟨ab20, 3, none⟩ (.string ⟨#[47, 99]⟩)).cell? ⟨wsz + 1, 3, none⟩ = some (.string ⟨#[]⟩) := HRS.out.cell 3
      have g3 := HRS.out.frozen 3
      have m4 : (w2.setCell ⟨ab20, 3, none⟩ (.string ⟨#[47, 99]⟩)).cell? ⟨ab20, 4, none⟩ = some (.string ⟨#[]⟩) := HBS.out.cell 4
      have r4 : (w2.setCell ⟨ab20, 3, none⟩ (.string ⟨#[47, 99]⟩)).cell? ⟨wsz + 1, 4, none⟩ = some (.string ⟨#[]⟩) := HRS.out.cell 4
      have g4 := HRS.out.frozen 4
      have m5 : (w2.setCell ⟨ab20, 3, none⟩ (.string ⟨#[47, 99]⟩)).cell? ⟨ab20, 5, none⟩ = some (.bool false) := HBS.out.cell 5
      have r5 : (w2.setCell ⟨ab20, 3, none⟩ (.string ⟨#[47, 99]⟩)).cell? ⟨wsz + 1, 5, none⟩ = some (.bool false) := HRS.out.cell 5
      have g5 := HRS.out.frozen 5
      have m6 : (w2.setCell ⟨ab20, 3, none⟩ (.string ⟨#[47, 99]⟩)).cell? ⟨ab20, 6, none⟩ = some (.string ⟨#[]⟩) := HBS.out.cell 6
      have r6 : (w2.setCell ⟨ab20, 3, none⟩ (.string ⟨#[47, 99]⟩)).cell? ⟨wsz + 1, 6, none⟩ = some (.string ⟨#[]⟩) := HRS.out.cell 6
      have g6 := HRS.out.frozen 6
      have m7 : (w2.setCell ⟨ab20, 3, none⟩ (.string ⟨#[47, 99]⟩)).cell? ⟨ab20, 7, none⟩ = some (.bool false) := HBS.out.cell 7
      have r7 : (w2.setCell ⟨ab20, 3, none⟩ (.string ⟨#[47, 99]⟩)).cell? ⟨wsz + 1, 7, none⟩ = some (.bool false) := HRS.out.cell 7
      have g7 := HRS.out.frozen 7
      have HFK := Lib.hid ((((((((HRS.out.set_ 0 (.string ⟨#[104, 116, 116, 112]⟩)).set_ 1 (.string ⟨#[97, 46, 98]⟩)).set_ 2 (.string ⟨#[]⟩)).set_ 3 (.string ⟨#[47, 99]⟩)).set_ 4 (.string ⟨#[]⟩)).set_ 5 (.bool false)).set_ 6 (.string ⟨#[]⟩)).set_ 7 (.bool false))
      have HFL := Lib.hid ((((((((HBT.out.setCell (p := ⟨wsz + 1, 0, none⟩) (by rw [HWS.out]; exact Nat.le_succ _) (.string ⟨#[104, 116, 116, 112]⟩)).setCell (p := ⟨wsz + 1, 1, none⟩) (by rw [HWS.out]; exact Nat.le_succ _) (.string ⟨#[97, 46, 98]⟩)).setCell (p := ⟨wsz + 1, 2, none⟩) (by rw [HWS.out]; exact Nat.le_succ _) (.string ⟨#[]⟩)).setCell (p := ⟨wsz + 1, 3, none⟩) (by rw [HWS.out]; exact Nat.le_succ _) (.string ⟨#[47, 99]⟩)).setCell (p := ⟨wsz + 1, 4, none⟩) (by rw [HWS.out]; exact Nat.le_succ _) (.string ⟨#[]⟩)).setCell (p := ⟨wsz + 1, 5, none⟩) (by rw [HWS.out]; exact Nat.le_succ _) (.bool false)).setCell (p := ⟨wsz + 1, 6, none⟩) (by rw [HWS.out]; exact Nat.le_succ _) (.string ⟨#[]⟩)).setCell (p := ⟨wsz + 1, 7, none⟩) (by rw [HWS.out]; exact Nat.le_succ _) (.bool false))
      go_wp2_with fail
      refine bodyPost_ret (results_cell_row rfl _ _ (wsz + 1) 80 #[.string ⟨#[104, 116, 116, 112]⟩, .string ⟨#[97, 46, 98]⟩, .string ⟨#[]⟩, .string ⟨#[47, 99]⟩, .string ⟨#[]⟩, .bool false, .string ⟨#[]⟩, .bool false] (0, 0) _ rfl HFK.out Tryz.underlying80 rfl addr_info) rfl ?_
      exact ⟨rfl, HFL.out⟩
  · rw [if_pos (by rfl)]
    simp only [List.getElem_toArray, List.getElem_cons_succ, List.getElem_cons_zero]
    go_simp
    have hb := (Below.refl wq.heap.size wq).alloc (Nat.le_refl _) (.cells #[.string ⟨#[]⟩, .string ⟨#[]⟩, .string ⟨#[]⟩, .string ⟨#[]⟩, .string ⟨#[]⟩, .bool false, .string ⟨#[]⟩, .bool false] 80)
    have hnb : Blk (wq.alloc (.cells #[.string ⟨#[]⟩, .string ⟨#[]⟩, .string ⟨#[]⟩, .string ⟨#[]⟩, .string ⟨#[]⟩, .bool false, .string ⟨#[]⟩, .bool false] 80)) wq.heap.size 80 [.string ⟨#[]⟩, .string ⟨#[]⟩, .string ⟨#[]⟩, .string ⟨#[]⟩, .string ⟨#[]⟩, .bool false, .string ⟨#[]⟩, .bool false] := Blk.new wq 80 [.string ⟨#[]⟩, .string ⟨#[]⟩, .string ⟨#[]⟩, .string ⟨#[]⟩, .string ⟨#[]⟩, .bool false, .string ⟨#[]⟩, .bool false]
    obtain ⟨wa6, hwa6⟩ : ∃ W, W = wq.alloc (.cells #[.string ⟨#[]⟩, .string ⟨#[]⟩, .string ⟨#[]⟩, .string ⟨#[]⟩, .string ⟨#[]⟩, .bool false, .string ⟨#[]⟩, .bool false] 80) := ⟨_, rfl⟩
    rw [← hwa6] at hb hnb ⊢
    clear hwa6
    obtain ⟨ab8, hab8⟩ : ∃ b, b = wq.heap.size := ⟨_, rfl⟩
    rw [← hab8] at hnb ⊢
    have habab8 : w.heap.size ≤ ab8 := by rw [hab8]; exact HBQ.out.size
    have hgtab8 : wsz + 1 < ab8 := by rw [hab8]; exact HRQ.out.lt
    have HK7 := Lib.hid hnb
    clear hnb
    show K _ wa6
    refine hK.out _ _ hb (fun hHeld0 => ?_)
    clear hK K hHeld hHeld0
    refine heldMonoA (S' := fun w' => Below (ab8) wa6 w') (fun w' h => by rw [hab8] at h; exact hb.trans h) _ _ _ _ ?_
    have hHeld : Below (ab8) wa6 wa6 := Below.refl _ _
    have B9 := Lib.hid (ext_trans HBQ.out hb)
    have G10 := Lib.hid (HGQ.out.ext hb)
    have HK11 := Lib.hid (HDQ.out.same (same_below hb) HDQ.out.lt)
    have HK12 := Lib.hid (HRQ.out.same (same_below hb) HRQ.out.lt)
    clear hb
    try simp only [List.getElem_toArray, List.getElem_cons_succ, List.getElem_cons_zero, Act.put, List.setIfInBounds_toArray, List.set_cons_zero, List.set_cons_succ]
    clear hab8
    refine wpAnyH_ready (rs := [2]) (by kernel_rfl) (by simp) ?_
    refine AllReadyH.cons rfl (fun K hK => ?_) AllReadyH.nil
    rw [if_pos (by rfl)]
    simp only [List.getElem_toArray, List.getElem_cons_succ, List.getElem_cons_zero]
    go_simp
    go_at_call 82
    refine (small_http _).mono ?_
    rintro e wc128 ⟨rfl, hb⟩
    show K _ wc128
    refine hK.out _ _ (hb.mono (Nat.le_of_lt HK7.out.lt)) (fun hHeld0 => ?_)
    clear hK K hHeld hHeld0
    refine heldMonoA (S' := fun w' => Below (ab8) wc128 w') (fun w' h => (hb.mono (Nat.le_of_lt HK7.out.lt)).trans h) _ _ _ _ ?_
    have hHeld : Below (ab8) wc128 wc128 := Below.refl _ _
    have B129 := Lib.hid (ext_trans B9.out hb)
    have G130 := Lib.hid (G10.out.ext hb)
    have HK131 := Lib.hid (HK11.out.same (same_below hb) HK11.out.lt)
    have HK132 := Lib.hid (HK12.out.same (same_below hb) HK12.out.lt)
    have HK133 := Lib.hid (HK7.out.same (same_below hb) HK7.out.lt)
    clear hb
    try simp only [List.getElem_toArray, List.getElem_cons_succ, List.getElem_cons_zero, Act.put, List.setIfInBounds_toArray, List.set_cons_zero, List.set_cons_succ]
    refine wpAnyH_ready (rs := [5]) (by kernel_rfl) (by simp) ?_
    refine AllReadyH.cons rfl (fun K hK => ?_) AllReadyH.nil
    rw [if_pos (by rfl)]
    simp only [List.getElem_toArray, List.getElem_cons_succ, List.getElem_cons_zero]
    go_simp
    go_at_call 82
    refine (small_ab _).mono ?_
    rintro e wc134 ⟨rfl, hb⟩
    show K _ wc134
    refine hK.out _ _ (hb.mono (Nat.le_of_lt HK133.out.lt)) (fun hHeld0 => ?_)
    clear hK K hHeld hHeld0
    refine heldMonoA (S' := fun w' => Below (ab8) wc134 w') (fun w' h => (hb.mono (Nat.le_of_lt HK133.out.lt)).trans h) _ _ _ _ ?_
    have hHeld : Below (ab8) wc134 wc134 := Below.refl _ _
    have B135 := Lib.hid (ext_trans B129.out hb)
    have G136 := Lib.hid (G130.out.ext hb)
    have HK137 := Lib.hid (HK131.out.same (same_below hb) HK131.out.lt)
    have HK138 := Lib.hid (HK132.out.same (same_below hb) HK132.out.lt)
    have HK139 := Lib.hid (HK133.out.same (same_below hb) HK133.out.lt)
    clear hb
    try simp only [List.getElem_toArray, List.getElem_cons_succ, List.getElem_cons_zero, Act.put, List.setIfInBounds_toArray, List.set_cons_zero, List.set_cons_succ]
    refine wpAnyH_ready (rs := [8]) (by kernel_rfl) (by simp) ?_
    refine AllReadyH.cons rfl (fun K hK => ?_) AllReadyH.nil
    rw [if_pos (by rfl)]
    simp only [List.getElem_toArray, List.getElem_cons_succ, List.getElem_cons_zero]
    go_simp
    go_at_call 138
    refine (trimLeft_nil _).mono ?_
    rintro e wc140 ⟨rfl, hw⟩
    have hb : Below wc134.heap.size wc134 wc140 := by rw [hw]; exact Below.refl _ _
    clear hw
    show K _ wc140
    refine hK.out _ _ (hb.mono (Nat.le_of_lt HK139.out.lt)) (fun hHeld0 => ?_)
    clear hK K hHeld hHeld0
    refine heldMonoA (S' := fun w' => Below (ab8) wc140 w') (fun w' h => (hb.mono (Nat.le_of_lt HK139.out.lt)).trans h) _ _ _ _ ?_
    have hHeld : Below (ab8) wc140 wc140 := Below.refl _ _
    have B141 := Lib.hid (ext_trans B135.out hb)
    have G142 := Lib.hid (G136.out.ext hb)
    have HK143 := Lib.hid (HK137.out.same (same_below hb) HK137.out.lt)
    have HK144 := Lib.hid (HK138.out.same (same_below hb) HK138.out.lt)
    have HK145 := Lib.hid (HK139.out.same (same_below hb) HK139.out.lt)
    clear hb
    try simp only [List.getElem_toArray, List.getElem_cons_succ, List.getElem_cons_zero, Act.put, List.setIfInBounds_toArray, List.set_cons_zero, List.set_cons_succ]
    refine wpAnyH_ready (rs := [11]) (by kernel_rfl) (by simp) ?_
    refine AllReadyH.cons rfl (fun K hK => ?_) AllReadyH.nil
    rw [if_pos (by rfl)]
    simp only [List.getElem_toArray, List.getElem_cons_succ, List.getElem_cons_zero]
    go_simp
    go_at_call 139
    refine (normalRow_c _).mono ?_
    rintro e wc146 ⟨rfl, hb⟩
    show K _ wc146
    refine hK.out _ _ (hb.mono (Nat.le_of_lt HK145.out.lt)) (fun hHeld0 => ?_)
    clear hK K hHeld hHeld0
    refine heldMonoA (S' := fun w' => Below (ab8) wc146 w') (fun w' h => (hb.mono (Nat.le_of_lt HK145.out.lt)).trans h) _ _ _ _ ?_
    have hHeld : Below (ab8) wc146 wc146 := Below.refl _ _
    have B147 := Lib.hid (ext_trans B141.out hb)
    have G148 := Lib.hid (G142.out.ext hb)
    have HK149 := Lib.hid (HK143.out.same (same_below hb) HK143.out.lt)
    have HK150 := Lib.hid (HK144.out.same (same_below hb) HK144.out.lt)
    have HK151 := Lib.hid (HK145.out.same (same_below hb) HK145.out.lt)
    clear hb
    try simp only [List.getElem_toArray, List.getElem_cons_succ, List.getElem_cons_zero, Act.put, List.setIfInBounds_toArray, List.set_cons_zero, List.set_cons_succ]
    refine wpAnyH_ready (rs := [14]) (by kernel_rfl) (by simp) ?_
    refine AllReadyH.cons rfl (fun K hK => ?_) AllReadyH.nil
    rw [if_pos (by rfl)]
    simp only [List.getElem_toArray, List.getElem_cons_succ, List.getElem_cons_zero]
    go_simp
    go_at_call 139
    refine (normalRow_nil _).mono ?_
    rintro e wc152 ⟨rfl, hb⟩
    show K _ wc152
    refine hK.out _ _ (hb.mono (Nat.le_of_lt HK151.out.lt)) (fun hHeld0 => ?_)
    clear hK K hHeld hHeld0
    refine heldMonoA (S' := fun w' => Below (ab8) wc152 w') (fun w' h => (hb.mono (Nat.le_of_lt HK151.out.lt)).trans h) _ _ _ _ ?_
    have hHeld : Below (ab8) wc152 wc152 := Below.refl _ _
    have B153 := Lib.hid (ext_trans B147.out hb)
    have G154 := Lib.hid (G148.out.ext hb)
    have HK155 := Lib.hid (HK149.out.same (same_below hb) HK149.out.lt)
    have HK156 := Lib.hid (HK150.out.same (same_below hb) HK150.out.lt)
    have HK157 := Lib.hid (HK151.out.same (same_below hb) HK151.out.lt)
    clear hb
    try simp only [List.getElem_toArray, List.getElem_cons_succ, List.getElem_cons_zero, Act.put, List.setIfInBounds_toArray, List.set_cons_zero, List.set_cons_succ]
    refine wpAnyH_take (i := 17) (v := ?_) rfl (by kernel_rfl) (by kernel_rfl) (by kernel_rfl) (fun _ _ _ h => h) (Or.inl ⟨by rfl, ?_⟩) (by assumption) ?_
    rotate_left
    · (intro w hSw; go_simp; try with_reducible rfl)
    try simp only [List.getElem_toArray, List.getElem_cons_succ, List.getElem_cons_zero, Act.put, List.setIfInBounds_toArray, List.set_cons_zero, List.set_cons_succ]
    refine wpAnyH_ready (rs := [19]) (by kernel_rfl) (by simp) ?_
    refine AllReadyH.cons rfl (fun K hK => ?_) AllReadyH.nil
    have c0 : wc152.cell? ⟨ab8, 0, none⟩ = some (.string ⟨#[]⟩) := HK157.out.cell 0
    have z0 := HK157.out.frozen 0
    have c1 : wc152.cell? ⟨ab8, 1, none⟩ = some (.string ⟨#[]⟩) := HK157.out.cell 1
    have z1 := HK157.out.frozen 1
    have c2 : wc152.cell? ⟨ab8, 2, none⟩ = some (.string ⟨#[]⟩) := HK157.out.cell 2
    have z2 := HK157.out.frozen 2
    have c3 : wc152.cell? ⟨ab8, 3, none⟩ = some (.string ⟨#[]⟩) := HK157.out.cell 3
    have z3 := HK157.out.frozen 3
    have c4 : wc152.cell? ⟨ab8, 4, none⟩ = some (.string ⟨#[]⟩) := HK157.out.cell 4
    have z4 := HK157.out.frozen 4
    have c5 : wc152.cell? ⟨ab8, 5, none⟩ = some (.bool false) := HK157.out.cell 5
    have z5 := HK157.out.frozen 5
    have c6 : wc152.cell? ⟨ab8, 6, none⟩ = some (.string ⟨#[]⟩) := HK157.out.cell 6
    have z6 := HK157.out.frozen 6
    have c7 : wc152.cell? ⟨ab8, 7, none⟩ = some (.bool false) := HK157.out.cell 7
    have z7 := HK157.out.frozen 7
    have HBK := Lib.hid ((((((((HK157.out.set_ 0 (.string ⟨#[104, 116, 116, 112]⟩)).set_ 1 (.string ⟨#[97, 46, 98]⟩)).set_ 2 (.string ⟨#[]⟩)).set_ 3 (.string ⟨#[47, 99]⟩)).set_ 4 (.string ⟨#[]⟩)).set_ 5 (.bool false)).set_ 6 (.string ⟨#[]⟩)).set_ 7 (.bool false))
    have HBL := Lib.hid ((((((((B153.out.setCell (p := ⟨ab8, 0, none⟩) habab8 (.string ⟨#[104, 116, 116, 112]⟩)).setCell (p := ⟨ab8, 1, none⟩) habab8 (.string ⟨#[97, 46, 98]⟩)).setCell (p := ⟨ab8, 2, none⟩) habab8 (.string ⟨#[]⟩)).setCell (p := ⟨ab8, 3, none⟩) habab8 (.string ⟨#[47, 99]⟩)).setCell (p := ⟨ab8, 4, none⟩) habab8 (.string ⟨#[]⟩)).setCell (p := ⟨ab8, 5, none⟩) habab8 (.bool false)).setCell (p := ⟨ab8, 6, none⟩) habab8 (.string ⟨#[]⟩)).setCell (p := ⟨ab8, 7, none⟩) habab8 (.bool false))
    have hne : wsz + 1 ≠ ab8 := by omega
    have HRK := Lib.hid ((((((((HK156.out.set_a (g' := ab8) (i := 0) hne (.string ⟨#[104, 116, 116, 112]⟩)).set_a (g' := ab8) (i := 1) hne (.string ⟨#[97, 46, 98]⟩)).set_a (g' := ab8) (i := 2) hne (.string ⟨#[]⟩)).set_a (g' := ab8) (i := 3) hne (.string ⟨#[47, 99]⟩)).set_a (g' := ab8) (i := 4) hne (.string ⟨#[]⟩)).set_a (g' := ab8) (i := 5) hne (.bool false)).set_a (g' := ab8) (i := 6) hne (.string ⟨#[]⟩)).set_a (g' := ab8) (i := 7) hne (.bool false))
    rw [if_pos (by rfl)]
    simp only [List.getElem_toArray, List.getElem_cons_succ, List.getElem_cons_zero]
    go_simp
    refine hK.out _ _ (((((((((Below.refl ab8 wc152).setCell (p := ⟨ab8, 0, none⟩) (Nat.le_refl _) (.string ⟨#[104, 116, 116, 112]⟩)).setCell (p := ⟨ab8, 1, none⟩) (Nat.le_refl _) (.string ⟨#[97, 46, 98]⟩)).setCell (p := ⟨ab8, 2, none⟩) (Nat.le_refl _) (.string ⟨#[]⟩)).setCell (p := ⟨ab8, 3, none⟩) (Nat.le_refl _) (.string ⟨#[47, 99]⟩)).setCell (p := ⟨ab8, 4, none⟩) (Nat.le_refl _) (.string ⟨#[]⟩)).setCell (p := ⟨ab8, 5, none⟩) (Nat.le_refl _) (.bool false)).setCell (p := ⟨ab8, 6, none⟩) (Nat.le_refl _) (.string ⟨#[]⟩)).setCell (p := ⟨ab8, 7, none⟩) (Nat.le_refl _) (.bool false)) (fun hHeld0 => ?_)
    clear hK K hHeld hHeld0 c0 c1 c2 c3 c4 c5 c6 c7 z0 z1 z2 z3 z4 z5 z6 z7
    try simp only [List.getElem_toArray, List.getElem_cons_succ, List.getElem_cons_zero, Act.put, List.setIfInBounds_toArray, List.set_cons_zero, List.set_cons_succ]
    refine wpAnyH_done (by kernel_rfl) ?_ _
    generalize ((((((((wc152.setCell ⟨ab8, 0, none⟩ (.string ⟨#[104, 116, 116, 112]⟩)).setCell ⟨ab8, 1, none⟩ (.string ⟨#[97, 46, 98]⟩)).setCell ⟨ab8, 2, none⟩ (.string ⟨#[]⟩)).setCell ⟨ab8, 3, none⟩ (.string ⟨#[47, 99]⟩)).setCell ⟨ab8, 4, none⟩ (.string ⟨#[]⟩)).setCell ⟨ab8, 5, none⟩ (.bool false)).setCell ⟨ab8, 6, none⟩ (.string ⟨#[]⟩)).setCell ⟨ab8, 7, none⟩ (.bool false)) = wz at *
    have b0 : wz.cell? ⟨ab8, 0, none⟩ = some (.string ⟨#[104, 116, 116, 112]⟩) := HBK.out.cell 0
    have b1 : wz.cell? ⟨ab8, 1, none⟩ = some (.string ⟨#[97, 46, 98]⟩) := HBK.out.cell 1
    have b2 : wz.cell? ⟨ab8, 2, none⟩ = some (.string ⟨#[]⟩) := HBK.out.cell 2
    have b3 : wz.cell? ⟨ab8, 3, none⟩ = some (.string ⟨#[47, 99]⟩) := HBK.out.cell 3
    have b4 : wz.cell? ⟨ab8, 4, none⟩ = some (.string ⟨#[]⟩) := HBK.out.cell 4
    have b5 : wz.cell? ⟨ab8, 5, none⟩ = some (.bool false) := HBK.out.cell 5
    have b6 : wz.cell? ⟨ab8, 6, none⟩ = some (.string ⟨#[]⟩) := HBK.out.cell 6
    have b7 : wz.cell? ⟨ab8, 7, none⟩ = some (.bool false) := HBK.out.cell 7
    have HGZ := Lib.hid (HGW.out.ext HBL.out)
    go_wp2_with fail
    refine (undot_c wz HGZ.out).mono ?_
    rintro e w2 ⟨rfl, hb⟩
    have HBA := Lib.hid (HBK.out.same (same_below hb) HBK.out.lt)
    have HRA := Lib.hid (HRK.out.same (same_below hb) HRK.out.lt)
    have HBM := Lib.hid (ext_trans HBL.out hb)
    clear hb b0 b1 b2 b3 b4 b5 b6 b7 HBK HRK HBL HGZ
    have d3 : w2.cell? ⟨ab8, 3, none⟩ = some (.string ⟨#[47, 99]⟩) := HBA.out.cell 3
    have f3 := HBA.out.frozen 3
    have HBS : Hid (Blk (w2.setCell ⟨ab8, 3, none⟩ (.string ⟨#[47, 99]⟩)) ab8 80 [.string ⟨#[104, 116, 116, 112]⟩, .string ⟨#[97, 46, 98]⟩, .string ⟨#[]⟩, .string ⟨#[47, 99]⟩, .string ⟨#[]⟩, .bool false, .string ⟨#[]⟩, .bool false]) := Lib.hid (HBA.out.set_ 3 (.string ⟨#[47, 99]⟩))
    have HRS : Hid (Blk (w2.setCell ⟨ab8, 3, none⟩ (.string ⟨#[47, 99]⟩)) (wsz + 1) 80 [.string ⟨#[]⟩, .string ⟨#[]⟩, .string ⟨#[]⟩, .string ⟨#[]⟩, .string ⟨#[]⟩, .bool false, .string ⟨#[]⟩, .bool false]) := Lib.hid (HRA.out.set_a (g' := ab8) (i := 3) hne (.string ⟨#[47, 99]⟩))
    have HBT := Lib.hid (HBM.out.setCell (p := ⟨ab8, 3, none⟩) habab8 (.string ⟨#[47, 99]⟩))
    have m0 : (w2.setCell ⟨ab8, 3, none⟩ (.string ⟨#[47, 99]⟩)).cell? ⟨ab8, 0, none⟩ = some (.string ⟨#[104, 116, 116, 112]⟩) := HBS.out.cell 0
    have r0 : (w2.setCell ⟨ab8, 3, none⟩ (.string ⟨#[47, 99]⟩)).cell? ⟨wsz + 1, 0, none⟩ = some (.string ⟨#[]⟩) := HRS.out.cell 0
    have g0 := HRS.out.frozen 0
    have m1 : (w2.setCell ⟨ab8, 3, none⟩ (.string ⟨#[47, 99]⟩)).cell? ⟨ab8, 1, none⟩ = some (.string ⟨#[97, 46, 98]⟩) := HBS.out.cell 1
    have r1 : (w2.setCell ⟨ab8, 3, none⟩ (.string ⟨#[47, 99]⟩)).cell? ⟨wsz + 1, 1, none⟩ = some (.string ⟨#[]⟩) := HRS.out.cell 1
    have g1 := HRS.out.frozen 1
    have m2 : (w2.setCell ⟨ab8, 3, none⟩ (.string ⟨#[47, 99]⟩)).cell? ⟨ab8, 2, none⟩ = some (.string ⟨#[]⟩) := HBS.out.cell 2
    have r2 : (w2.setCell ⟨ab8, 3, none⟩ (.string ⟨#[47, 99]⟩)).cell? ⟨wsz + 1, 2, none⟩ = some (.string ⟨#[]⟩) := HRS.out.cell 2
    have g2 := HRS.out.frozen 2
    have m3 : (w2.setCell ⟨ab8, 3, none⟩ (.string ⟨#[47, 99]⟩)).cell? ⟨ab8, 3, none⟩ = some (.string ⟨#[47, 99]⟩) := HBS.out.cell 3
    have r3 : (w2.setCell ⟨ab8, 3, none⟩ (.string ⟨#[47, 99]⟩)).cell? ⟨wsz + 1, 3, none⟩ = some (.string ⟨#[]⟩) := HRS.out.cell 3
    have g3 := HRS.out.frozen 3
    have m4 : (w2.setCell ⟨ab8, 3, none⟩ (.string ⟨#[47, 99]⟩)).cell? ⟨ab8, 4, none⟩ = some (.string ⟨#[]⟩) := HBS.out.cell 4
    have r4 : (w2.setCell ⟨ab8, 3, none⟩ (.string ⟨#[47, 99]⟩)).cell? ⟨wsz + 1, 4, none⟩ = some (.string ⟨#[]⟩) := HRS.out.cell 4
    have g4 := HRS.out.frozen 4
    have m5 : (w2.setCell ⟨ab8, 3, none⟩ (.string ⟨#[47, 99]⟩)).cell? ⟨ab8, 5, none⟩ = some (.bool false) := HBS.out.cell 5
    have r5 : (w2.setCell ⟨ab8, 3, none⟩ (.string ⟨#[47, 99]⟩)).cell? ⟨wsz + 1, 5, none⟩ = some (.bool false) := HRS.out.cell 5
    have g5 := HRS.out.frozen 5
    have m6 : (w2.setCell ⟨ab8, 3, none⟩ (.string ⟨#[47, 99]⟩)).cell? ⟨ab8, 6, none⟩ = some (.string ⟨#[]⟩) := HBS.out.cell 6
    have r6 : (w2.setCell ⟨ab8, 3, none⟩ (.string ⟨#[47, 99]⟩)).cell? ⟨wsz + 1, 6, none⟩ = some (.string ⟨#[]⟩) := HRS.out.cell 6
    have g6 := HRS.out.frozen 6
    have m7 : (w2.setCell ⟨ab8, 3, none⟩ (.string ⟨#[47, 99]⟩)).cell? ⟨ab8, 7, none⟩ = some (.bool false) := HBS.out.cell 7
    have r7 : (w2.setCell ⟨ab8, 3, none⟩ (.string ⟨#[47, 99]⟩)).cell? ⟨wsz + 1, 7, none⟩ = some (.bool false) := HRS.out.cell 7
    have g7 := HRS.out.frozen 7
    have HFK := Lib.hid ((((((((HRS.out.set_ 0 (.string ⟨#[104, 116, 116, 112]⟩)).set_ 1 (.string ⟨#[97, 46, 98]⟩)).set_ 2 (.string ⟨#[]⟩)).set_ 3 (.string ⟨#[47, 99]⟩)).set_ 4 (.string ⟨#[]⟩)).set_ 5 (.bool false)).set_ 6 (.string ⟨#[]⟩)).set_ 7 (.bool false))
    have HFL := Lib.hid ((((((((HBT.out.setCell (p := ⟨wsz + 1, 0, none⟩) (by rw [HWS.out]; exact Nat.le_succ _) (.string ⟨#[104, 116, 116, 112]⟩)).setCell (p := ⟨wsz + 1, 1, none⟩) (by rw [HWS.out]; exact Nat.le_succ _) (.string ⟨#[97, 46, 98]⟩)).setCell (p := ⟨wsz + 1, 2, none⟩) (by rw [HWS.out]; exact Nat.le_succ _) (.string ⟨#[]⟩)).setCell (p := ⟨wsz + 1, 3, none⟩) (by rw [HWS.out]; exact Nat.le_succ _) (.string ⟨#[47, 99]⟩)).setCell (p := ⟨wsz + 1, 4, none⟩) (by rw [HWS.out]; exact Nat.le_succ _) (.string ⟨#[]⟩)).setCell (p := ⟨wsz + 1, 5, none⟩) (by rw [HWS.out]; exact Nat.le_succ _) (.bool false)).setCell (p := ⟨wsz + 1, 6, none⟩) (by rw [HWS.out]; exact Nat.le_succ _) (.string ⟨#[]⟩)).setCell (p := ⟨wsz + 1, 7, none⟩) (by rw [HWS.out]; exact Nat.le_succ _) (.bool false))
    go_wp2_with fail
    refine bodyPost_ret (results_cell_row rfl _ _ (wsz + 1) 80 #[.string ⟨#[104, 116, 116, 112]⟩, .string ⟨#[97, 46, 98]⟩, .string ⟨#[]⟩, .string ⟨#[47, 99]⟩, .string ⟨#[]⟩, .bool false, .string ⟨#[]⟩, .bool false] (0, 0) _ rfl HFK.out Tryz.underlying80 rfl addr_info) rfl ?_
    exact ⟨rfl, HFL.out⟩
end Go.Proofs.YtnkdcmibafjplaaGreatDoor
namespace Go.Proofs.YtnkdcmibafjplaaGreatDoor
open Go.RowKit Go.Shelf
set_option linter.unusedVariables false
set_option linter.unusedSimpArgs false

theorem resultsA_row2 {P : Program} {fn : Func} {p u : Tmp} {ty : TypeId} (h : fn.results = #[.cell p ty, .tmp u]) (tmps : Array Value) (w : World) (g : Nat) (t : TypeId) (cs : List Value) (d : TypeDesc)
    (hp : tmps.getD p undef = .pointer (some ⟨g, 0, none⟩)) (hg : Blk w g t cs)
    (hu : P.underlying ty = some d) (hd : (match d with | .struct _ | .array _ _ => true | _ => false) = true) (hi : (P.info? ty).map (·.size) = some cs.toArray.size) :
    (results fn tmps).run P w = .ok (.tuple #[.agg cs.toArray, tmps.getD u undef]) w := by
  rw [results_cell_tmp h, hp]
  simp only [asAddr, Sem.run_pure, Result.andThen_ok, run_loadVar_row w g t ty cs.toArray (0, 0) d hg hu hd hi]

set_option maxRecDepth 100000 in
set_option maxHeartbeats 2000000 in
theorem sameIx_nil (k : Int) (s : ByteArray) (w : World) : Calls Tryz.prog 176 #[.slice none 0 0, .agg #[.int .i64 k, .string s]] w fun e w' => e = .returned (.int .i64 (-1)) ∧ Below w.heap.size w w' := by
  have HB := Lib.hid ((Below.refl w.heap.size w).alloc (Nat.le_refl _) (.cells #[.int .i64 k, .string s] 169))
  go_enter Tryz.func176, Tryz.ntmps176
  go_wp2_with fail
  generalize w.alloc (.cells #[.int .i64 k, .string s] 169) = w0 at *
  go_loopw [8] (fun vi wr => vi = .int .i64 0 ∧ wr = w0) (fun _ _ => 0)
  case atStart => exact ⟨rfl, rfl⟩
  case round =>
    obtain ⟨rfl, rfl⟩ := hrel
    go_wp2_with fail
    go_ret
    exact ⟨rfl, HB.out⟩
set_option maxRecDepth 100000 in
set_option maxHeartbeats 2000000 in
theorem sameIn_nil (k : Int) (s : ByteArray) (w : World) : Calls Tryz.prog 142 #[.slice none 0 0, .agg #[.int .i64 k, .string s]] w fun e w' => e = .returned (.bool false) ∧ Below w.heap.size w w' := by
  have HB := Lib.hid ((Below.refl w.heap.size w).alloc (Nat.le_refl _) (.cells #[.int .i64 k, .string s] 169))
  have hk := Blk.new w 169 [.int .i64 k, .string s]
  have c0 : (w.alloc (.cells #[.int .i64 k, .string s] 169)).cell? ⟨w.heap.size, 0, none⟩ = some (.int .i64 k) := hk.cell 0
  have c1 : (w.alloc (.cells #[.int .i64 k, .string s] 169)).cell? ⟨w.heap.size, 1, none⟩ = some (.string s) := hk.cell 1
  clear hk
  go_enter Tryz.func142, Tryz.ntmps142
  go_wp2_with fail
  refine (sameIx_nil k s _).mono ?_
  rintro e w1 ⟨rfl, hb⟩
  have HB1 := Lib.hid (ext_trans HB.out hb)
  clear hb c0 c1
  go_wp2_with fail
  go_ret
  exact ⟨rfl, HB1.out⟩
set_option maxRecDepth 100000 in
set_option maxHeartbeats 2000000 in
theorem has_nil (k : Int) (s : ByteArray) (w : World) : Calls Tryz.prog 91 #[.slice none 0 0, .int .i64 k, .string s] w fun e w' => e = .returned (.bool false) ∧ Below w.heap.size w w' := by
  go_enter Tryz.func91, Tryz.ntmps91
  go_wp2_with fail
  refine (sameIn_nil k s _).mono ?_
  rintro e w1 ⟨rfl, hb⟩
  have HB1 := Lib.hid hb
  clear hb
  go_wp2_with fail
  go_ret
  exact ⟨rfl, HB1.out⟩
set_option maxRecDepth 100000 in
set_option maxHeartbeats 2000000 in
theorem hasPre_ab (w : World) : Calls Tryz.prog 100 #[.string ⟨#[97, 46, 98]⟩, .string ⟨#[119, 119, 119, 46]⟩] w fun e w' => e = .returned (.bool false) ∧ w' = w := by
  go_enter Tryz.func100, Tryz.ntmps100
  go_wp2_with fail
  go_ret
  exact ⟨rfl, rfl⟩
set_option maxRecDepth 100000 in
set_option maxHeartbeats 2000000 in
theorem cut0_ab (w : World) : Calls Tryz.prog 141 #[.string ⟨#[97, 46, 98]⟩, .string ⟨#[119, 119, 119, 46]⟩] w fun e w' => e = .returned (.tuple #[.string ⟨#[97, 46, 98]⟩, .bool false]) ∧ w' = w := by
  go_enter Tryz.func141, Tryz.ntmps141
  go_wp2_with fail
  refine (hasPre_ab _).mono ?_
  rintro e w1 ⟨rfl, hw⟩
  subst hw
  go_wp2_with fail
  go_ret2
  exact ⟨rfl, rfl⟩
set_option maxRecDepth 100000 in
set_option maxHeartbeats 2000000 in
theorem cut_ab (w : World) : Calls Tryz.prog 90 #[.string ⟨#[97, 46, 98]⟩, .string ⟨#[119, 119, 119, 46]⟩] w fun e w' => e = .returned (.tuple #[.string ⟨#[97, 46, 98]⟩, .bool false]) ∧ w' = w := by
  go_enter Tryz.func90, Tryz.ntmps90
  go_wp2_with fail
  refine (cut0_ab _).mono ?_
  rintro e w1 ⟨rfl, hw⟩
  subst hw
  go_wp2_with fail
  go_ret2
  exact ⟨rfl, rfl⟩
set_option maxRecDepth 100000 in
set_option maxHeartbeats 2000000 in
theorem last0_c (w : World) : Calls Tryz.prog 177 #[.string ⟨#[47, 99]⟩, .int .u8 47] w fun e w' => e = .returned (.int .i64 0) ∧ w' = w := by
  have hc0 : ((⟨#[47, 99]⟩ : ByteArray)[0]'(by decide)).toNat = 47 := rfl
  have hc1 : ((⟨#[47, 99]⟩ : ByteArray)[1]'(by decide)).toNat = 99 := rfl
  go_enter Tryz.func177, Tryz.ntmps177
  go_wp2_with fail
  go_loopw [5] (fun vi wr => ∃ k : Nat, k ≤ 1 ∧ vi = .int .i64 k ∧ wr = w) (fun vi _ => (intOf vi).toNat)
  case atStart => exact ⟨1, by omega, rfl, rfl⟩
  case round =>
    obtain ⟨k, hk, rfl, rfl⟩ := hrel
    have hk2 : k = 0 ∨ k = 1 := by omega
    rcases hk2 with rfl | rfl
    · rw [show (((0 : Nat) : Int)) = 0 from rfl]
      go_wp2_with fail
      go_ret
      exact ⟨rfl, rfl⟩
    · rw [show (((1 : Nat) : Int)) = 1 from rfl]
      go_wp2_with fail
      go_roundw
      case rel => first | exact ⟨0, by omega, rfl, trivial⟩ | (repeat (apply Exists.intro); (refine And.intro ?_ ?_; rotate_left; (repeat' (first | exact rfl | apply And.intro)); exact ⟨0, by omega, rfl, trivial⟩))
      case measure => simp [intOf]
set_option maxRecDepth 100000 in
set_option maxHeartbeats 2000000 in
theorem last_c (w : World) : Calls Tryz.prog 145 #[.string ⟨#[47, 99]⟩, .int .u8 47] w fun e w' => e = .returned (.int .i64 0) ∧ w' = w := by
  go_enter Tryz.func145, Tryz.ntmps145
  go_wp2_with fail
  refine (last0_c _).mono ?_
  rintro e w1 ⟨rfl, hw⟩
  subst hw
  go_wp2_with fail
  go_ret
  exact ⟨rfl, rfl⟩
set_option maxRecDepth 100000 in
set_option maxHeartbeats 2000000 in
theorem pathOf_c (w : World) : Calls Tryz.prog 93 #[.string ⟨#[47, 99]⟩, .slice none 0 0] w fun e w' => e = .returned (.string ⟨#[47, 99]⟩) ∧ Below w.heap.size w w' := by
  have hex : ((⟨#[47, 99]⟩ : ByteArray).extract 1 2) = ⟨#[99]⟩ := by decide
  go_enter Tryz.func93, Tryz.ntmps93
  go_wp2_with fail
  refine (has_nil _ _ _).mono ?_
  rintro e w1 ⟨rfl, hb⟩
  have HB1 := Lib.hid (hb)
  clear hb
  go_wp2_with fail
  refine (last_c _).mono ?_
  rintro e wq ⟨rfl, hw⟩
  subst hw
  go_wp2_with fail
  refine (has_nil _ _ _).mono ?_
  rintro e w2 ⟨rfl, hb⟩
  have HB2 := Lib.hid (ext_trans HB1.out hb)
  clear hb
  go_wp2_with fail
  refine (has_nil _ _ _).mono ?_
  rintro e w3 ⟨rfl, hb⟩
  have HB3 := Lib.hid (ext_trans HB2.out hb)
  clear hb
  go_wp2_with fail
  go_ret
  exact ⟨rfl, HB3.out⟩
set_option maxRecDepth 100000 in
set_option maxHeartbeats 2000000 in
theorem normalTop_ab (w : World) (hG : GInt w) : Calls Tryz.prog 55 #[.agg #[.string ⟨#[104, 116, 116, 112]⟩, .string ⟨#[97, 46, 98]⟩, .string ⟨#[]⟩, .string ⟨#[47, 99]⟩, .string ⟨#[]⟩, .bool false, .string ⟨#[]⟩, .bool false]] w fun e w' => e = .returned (.tuple #[.agg #[.string ⟨#[104, 116, 116, 112]⟩, .string ⟨#[97, 46, 98]⟩, .string ⟨#[]⟩, .string ⟨#[47, 99]⟩, .string ⟨#[]⟩, .bool false, .string ⟨#[]⟩, .bool false], .int .i64 0]) ∧ Below w.heap.size w w' := by
  have hk := Blk.new w 80 [.string ⟨#[104, 116, 116, 112]⟩, .string ⟨#[97, 46, 98]⟩, .string ⟨#[]⟩, .string ⟨#[47, 99]⟩, .string ⟨#[]⟩, .bool false, .string ⟨#[]⟩, .bool false]
  have hab := (Below.refl w.heap.size w).alloc (Nat.le_refl _) (.cells #[.string ⟨#[104, 116, 116, 112]⟩, .string ⟨#[97, 46, 98]⟩, .string ⟨#[]⟩, .string ⟨#[47, 99]⟩, .string ⟨#[]⟩, .bool false, .string ⟨#[]⟩, .bool false] 80)
  have hz : (w.alloc (.cells #[.string ⟨#[104, 116, 116, 112]⟩, .string ⟨#[97, 46, 98]⟩, .string ⟨#[]⟩, .string ⟨#[47, 99]⟩, .string ⟨#[]⟩, .bool false, .string ⟨#[]⟩, .bool false] 80)).heap.size = w.heap.size + 1 := by simp
  have hk2 := Blk.new (w.alloc (.cells #[.string ⟨#[104, 116, 116, 112]⟩, .string ⟨#[97, 46, 98]⟩, .string ⟨#[]⟩, .string ⟨#[47, 99]⟩, .string ⟨#[]⟩, .bool false, .string ⟨#[]⟩, .bool false] 80)) 80 [.string ⟨#[]⟩, .string ⟨#[]⟩, .string ⟨#[]⟩, .string ⟨#[]⟩, .string ⟨#[]⟩, .bool false, .string ⟨#[]⟩, .bool false]
  rw [hz] at hk2
  have HD0 : Hid (Blk ((w.alloc (.cells #[.string ⟨#[104, 116, 116, 112]⟩, .string ⟨#[97, 46, 98]⟩, .string ⟨#[]⟩, .string ⟨#[47, 99]⟩, .string ⟨#[]⟩, .bool false, .string ⟨#[]⟩, .bool false] 80)).alloc (.cells #[.string ⟨#[]⟩, .string ⟨#[]⟩, .string ⟨#[]⟩, .string ⟨#[]⟩, .string ⟨#[]⟩, .bool false, .string ⟨#[]⟩, .bool false] 80)) w.heap.size 80 [.string ⟨#[104, 116, 116, 112]⟩, .string ⟨#[97, 46, 98]⟩, .string ⟨#[]⟩, .string ⟨#[47, 99]⟩, .string ⟨#[]⟩, .bool false, .string ⟨#[]⟩, .bool false]) := Lib.hid (hk.alloc_a _)
  have HR0 : Hid (Blk ((w.alloc (.cells #[.string ⟨#[104, 116, 116, 112]⟩, .string ⟨#[97, 46, 98]⟩, .string ⟨#[]⟩, .string ⟨#[47, 99]⟩, .string ⟨#[]⟩, .bool false, .string ⟨#[]⟩, .bool false] 80)).alloc (.cells #[.string ⟨#[]⟩, .string ⟨#[]⟩, .string ⟨#[]⟩, .string ⟨#[]⟩, .string ⟨#[]⟩, .bool false, .string ⟨#[]⟩, .bool false] 80)) (w.heap.size + 1) 80 [.string ⟨#[]⟩, .string ⟨#[]⟩, .string ⟨#[]⟩, .string ⟨#[]⟩, .string ⟨#[]⟩, .bool false, .string ⟨#[]⟩, .bool false]) := Lib.hid hk2
  have HB0 := Lib.hid (hab.alloc (by simp) (.cells #[.string ⟨#[]⟩, .string ⟨#[]⟩, .string ⟨#[]⟩, .string ⟨#[]⟩, .string ⟨#[]⟩, .bool false, .string ⟨#[]⟩, .bool false] 80))
  have HG0 := Lib.hid (hG.ext HB0.out)
  clear hk hab hk2 hG hz
  have a0 : ((w.alloc (.cells #[.string ⟨#[104, 116, 116, 112]⟩, .string ⟨#[97, 46, 98]⟩, .string ⟨#[]⟩, .string ⟨#[47, 99]⟩, .string ⟨#[]⟩, .bool false, .string ⟨#[]⟩, .bool false] 80)).alloc (.cells #[.string ⟨#[]⟩, .string ⟨#[]⟩, .string ⟨#[]⟩, .string ⟨#[]⟩, .string ⟨#[]⟩, .bool false, .string ⟨#[]⟩, .bool false] 80)).cell? ⟨w.heap.size, 0, none⟩ = some (.string ⟨#[104, 116, 116, 112]⟩) := HD0.out.cell 0
  have a1 : ((w.alloc (.cells #[.string ⟨#[104, 116, 116, 112]⟩, .string ⟨#[97, 46, 98]⟩, .string ⟨#[]⟩, .string ⟨#[47, 99]⟩, .string ⟨#[]⟩, .bool false, .string ⟨#[]⟩, .bool false] 80)).alloc (.cells #[.string ⟨#[]⟩, .string ⟨#[]⟩, .string ⟨#[]⟩, .string ⟨#[]⟩, .string ⟨#[]⟩, .bool false, .string ⟨#[]⟩, .bool false] 80)).cell? ⟨w.heap.size, 1, none⟩ = some (.string ⟨#[97, 46, 98]⟩) := HD0.out.cell 1
  have a2 : ((w.alloc (.cells #[.string ⟨#[104, 116, 116, 112]⟩, .string ⟨#[97, 46, 98]⟩, .string ⟨#[]⟩, .string ⟨#[47, 99]⟩, .string ⟨#[]⟩, .bool false, .string ⟨#[]⟩, .bool false] 80)).alloc (.cells #[.string ⟨#[]⟩, .string ⟨#[]⟩, .string ⟨#[]⟩, .string ⟨#[]⟩, .string ⟨#[]⟩, .bool false, .string ⟨#[]⟩, .bool false] 80)).cell? ⟨w.heap.size, 2, none⟩ = some (.string ⟨#[]⟩) := HD0.out.cell 2
  have a3 : ((w.alloc (.cells #[.string ⟨#[104, 116, 116, 112]⟩, .string ⟨#[97, 46, 98]⟩, .string ⟨#[]⟩, .string ⟨#[47, 99]⟩, .string ⟨#[]⟩, .bool false, .string ⟨#[]⟩, .bool false] 80)).alloc (.cells #[.string ⟨#[]⟩, .string ⟨#[]⟩, .string ⟨#[]⟩, .string ⟨#[]⟩, .string ⟨#[]⟩, .bool false, .string ⟨#[]⟩, .bool false] 80)).cell? ⟨w.heap.size, 3, none⟩ = some (.string ⟨#[47, 99]⟩) := HD0.out.cell 3
  have a4 : ((w.alloc (.cells #[.string ⟨#[104, 116, 116, 112]⟩, .string ⟨#[97, 46, 98]⟩, .string ⟨#[]⟩, .string ⟨#[47, 99]⟩, .string ⟨#[]⟩, .bool false, .string ⟨#[]⟩, .bool false] 80)).alloc (.cells #[.string ⟨#[]⟩, .string ⟨#[]⟩, .string ⟨#[]⟩, .string ⟨#[]⟩, .string ⟨#[]⟩, .bool false, .string ⟨#[]⟩, .bool false] 80)).cell? ⟨w.heap.size, 4, none⟩ = some (.string ⟨#[]⟩) := HD0.out.cell 4
  have a5 : ((w.alloc (.cells #[.string ⟨#[104, 116, 116, 112]⟩, .string ⟨#[97, 46, 98]⟩, .string ⟨#[]⟩, .string ⟨#[47, 99]⟩, .string ⟨#[]⟩, .bool false, .string ⟨#[]⟩, .bool false] 80)).alloc (.cells #[.string ⟨#[]⟩, .string ⟨#[]⟩, .string ⟨#[]⟩, .string ⟨#[]⟩, .string ⟨#[]⟩, .bool false, .string ⟨#[]⟩, .bool false] 80)).cell? ⟨w.heap.size, 5, none⟩ = some (.bool false) := HD0.out.cell 5
  have a6 : ((w.alloc (.cells #[.string ⟨#[104, 116, 116, 112]⟩, .string ⟨#[97, 46, 98]⟩, .string ⟨#[]⟩, .string ⟨#[47, 99]⟩, .string ⟨#[]⟩, .bool false, .string ⟨#[]⟩, .bool false] 80)).alloc (.cells #[.string ⟨#[]⟩, .string ⟨#[]⟩, .string ⟨#[]⟩, .string ⟨#[]⟩, .string ⟨#[]⟩, .bool false, .string ⟨#[]⟩, .bool false] 80)).cell? ⟨w.heap.size, 6, none⟩ = some (.string ⟨#[]⟩) := HD0.out.cell 6
  have a7 : ((w.alloc (.cells #[.string ⟨#[104, 116, 116, 112]⟩, .string ⟨#[97, 46, 98]⟩, .string ⟨#[]⟩, .string ⟨#[47, 99]⟩, .string ⟨#[]⟩, .bool false, .string ⟨#[]⟩, .bool false] 80)).alloc (.cells #[.string ⟨#[]⟩, .string ⟨#[]⟩, .string ⟨#[]⟩, .string ⟨#[]⟩, .string ⟨#[]⟩, .bool false, .string ⟨#[]⟩, .bool false] 80)).cell? ⟨w.heap.size, 7, none⟩ = some (.bool false) := HD0.out.cell 7
  go_enter Tryz.func55, Tryz.ntmps55
  go_wp2_with fail
  refine (check_ab _ HG0.out).mono ?_
  rintro e w1 ⟨rfl, hb⟩
  have HB1 := Lib.hid (ext_trans HB0.out hb)
  have HG1 := Lib.hid (HG0.out.ext hb)
  have HD1 := Lib.hid (HD0.out.same (same_below hb) HD0.out.lt)
  have HR1 := Lib.hid (HR0.out.same (same_below hb) HR0.out.lt)
  clear hb HB0 HG0 HD0 HR0
  clear a0 a1 a2 a3 a4 a5 a6 a7
  have a0 : w1.cell? ⟨w.heap.size, 0, none⟩ = some (.string ⟨#[104, 116, 116, 112]⟩) := HD1.out.cell 0
  have a1 : w1.cell? ⟨w.heap.size, 1, none⟩ = some (.string ⟨#[97, 46, 98]⟩) := HD1.out.cell 1
  have a2 : w1.cell? ⟨w.heap.size, 2, none⟩ = some (.string ⟨#[]⟩) := HD1.out.cell 2
  have a3 : w1.cell? ⟨w.heap.size, 3, none⟩ = some (.string ⟨#[47, 99]⟩) := HD1.out.cell 3
  have a4 : w1.cell? ⟨w.heap.size, 4, none⟩ = some (.string ⟨#[]⟩) := HD1.out.cell 4
  have a5 : w1.cell? ⟨w.heap.size, 5, none⟩ = some (.bool false) := HD1.out.cell 5
  have a6 : w1.cell? ⟨w.heap.size, 6, none⟩ = some (.string ⟨#[]⟩) := HD1.out.cell 6
  have a7 : w1.cell? ⟨w.heap.size, 7, none⟩ = some (.bool false) := HD1.out.cell 7
  go_wp2_with fail
  refine (normal_ab _ HG1.out).mono ?_
  rintro e w2 ⟨rfl, hb⟩
  have HB2 := Lib.hid (ext_trans HB1.out hb)
  have HG2 := Lib.hid (HG1.out.ext hb)
  have HD2 := Lib.hid (HD1.out.same (same_below hb) HD1.out.lt)
  have HR2 := Lib.hid (HR1.out.same (same_below hb) HR1.out.lt)
  clear hb HB1 HG1 HD1 HR1
  clear a0 a1 a2 a3 a4 a5 a6 a7
  have hb := (Below.refl w2.heap.size w2).alloc (Nat.le_refl _) (.cells #[.string ⟨#[104, 116, 116, 112]⟩, .string ⟨#[97, 46, 98]⟩, .string ⟨#[]⟩, .string ⟨#[47, 99]⟩, .string ⟨#[]⟩, .bool false, .string ⟨#[]⟩, .bool false] 80)
  have HN3 : Hid (Blk (w2.alloc (.cells #[.string ⟨#[104, 116, 116, 112]⟩, .string ⟨#[97, 46, 98]⟩, .string ⟨#[]⟩, .string ⟨#[47, 99]⟩, .string ⟨#[]⟩, .bool false, .string ⟨#[]⟩, .bool false] 80)) w2.heap.size 80 [.string ⟨#[104, 116, 116, 112]⟩, .string ⟨#[97, 46, 98]⟩, .string ⟨#[]⟩, .string ⟨#[47, 99]⟩, .string ⟨#[]⟩, .bool false, .string ⟨#[]⟩, .bool false]) := Lib.hid (Blk.new w2 80 [.string ⟨#[104, 116, 116, 112]⟩, .string ⟨#[97, 46, 98]⟩, .string ⟨#[]⟩, .string ⟨#[47, 99]⟩, .string ⟨#[]⟩, .bool false, .string ⟨#[]⟩, .bool false])
  have HB3 := Lib.hid (ext_trans HB2.out hb)
  have HG3 := Lib.hid (HG2.out.ext hb)
  have HD3 := Lib.hid (HD2.out.same (same_below hb) HD2.out.lt)
  have HR3 := Lib.hid (HR2.out.same (same_below hb) HR2.out.lt)
  clear hb HB2 HG2 HD2 HR2
  have b0 : (w2.alloc (.cells #[.string ⟨#[104, 116, 116, 112]⟩, .string ⟨#[97, 46, 98]⟩, .string ⟨#[]⟩, .string ⟨#[47, 99]⟩, .string ⟨#[]⟩, .bool false, .string ⟨#[]⟩, .bool false] 80)).cell? ⟨w2.heap.size, 0, none⟩ = some (.string ⟨#[104, 116, 116, 112]⟩) := HN3.out.cell 0
  have b1 : (w2.alloc (.cells #[.string ⟨#[104, 116, 116, 112]⟩, .string ⟨#[97, 46, 98]⟩, .string ⟨#[]⟩, .string ⟨#[47, 99]⟩, .string ⟨#[]⟩, .bool false, .string ⟨#[]⟩, .bool false] 80)).cell? ⟨w2.heap.size, 1, none⟩ = some (.string ⟨#[97, 46, 98]⟩) := HN3.out.cell 1
  have b2 : (w2.alloc (.cells #[.string ⟨#[104, 116, 116, 112]⟩, .string ⟨#[97, 46, 98]⟩, .string ⟨#[]⟩, .string ⟨#[47, 99]⟩, .string ⟨#[]⟩, .bool false, .string ⟨#[]⟩, .bool false] 80)).cell? ⟨w2.heap.size, 2, none⟩ = some (.string ⟨#[]⟩) := HN3.out.cell 2
  have b3 : (w2.alloc (.cells #[.string ⟨#[104, 116, 116, 112]⟩, .string ⟨#[97, 46, 98]⟩, .string ⟨#[]⟩, .string ⟨#[47, 99]⟩, .string ⟨#[]⟩, .bool false, .string ⟨#[]⟩, .bool false] 80)).cell? ⟨w2.heap.size, 3, none⟩ = some (.string ⟨#[47, 99]⟩) := HN3.out.cell 3
  have b4 : (w2.alloc (.cells #[.string ⟨#[104, 116, 116, 112]⟩, .string ⟨#[97, 46, 98]⟩, .string ⟨#[]⟩, .string ⟨#[47, 99]⟩, .string ⟨#[]⟩, .bool false, .string ⟨#[]⟩, .bool false] 80)).cell? ⟨w2.heap.size, 4, none⟩ = some (.string ⟨#[]⟩) := HN3.out.cell 4
  have b5 : (w2.alloc (.cells #[.string ⟨#[104, 116, 116, 112]⟩, .string ⟨#[97, 46, 98]⟩, .string ⟨#[]⟩, .string ⟨#[47, 99]⟩, .string ⟨#[]⟩, .bool false, .string ⟨#[]⟩, .bool false] 80)).cell? ⟨w2.heap.size, 5, none⟩ = some (.bool false) := HN3.out.cell 5
  have b6 : (w2.alloc (.cells #[.string ⟨#[104, 116, 116, 112]⟩, .string ⟨#[97, 46, 98]⟩, .string ⟨#[]⟩, .string ⟨#[47, 99]⟩, .string ⟨#[]⟩, .bool false, .string ⟨#[]⟩, .bool false] 80)).cell? ⟨w2.heap.size, 6, none⟩ = some (.string ⟨#[]⟩) := HN3.out.cell 6
  have b7 : (w2.alloc (.cells #[.string ⟨#[104, 116, 116, 112]⟩, .string ⟨#[97, 46, 98]⟩, .string ⟨#[]⟩, .string ⟨#[47, 99]⟩, .string ⟨#[]⟩, .bool false, .string ⟨#[]⟩, .bool false] 80)).cell? ⟨w2.heap.size, 7, none⟩ = some (.bool false) := HN3.out.cell 7
  go_wp2_with fail
  clear b0 b1 b2 b3 b4 b5 b6 b7
  generalize w2.alloc (.cells #[.string ⟨#[104, 116, 116, 112]⟩, .string ⟨#[97, 46, 98]⟩, .string ⟨#[]⟩, .string ⟨#[47, 99]⟩, .string ⟨#[]⟩, .bool false, .string ⟨#[]⟩, .bool false] 80) = w3 at *
  generalize w2.heap.size = nb at *
  refine (check_ab _ HG3.out).mono ?_
  rintro e w4 ⟨rfl, hb⟩
  have HB4 := Lib.hid (ext_trans HB3.out hb)
  have HG4 := Lib.hid (HG3.out.ext hb)
  have HD4 := Lib.hid (HD3.out.same (same_below hb) HD3.out.lt)
  have HR4 := Lib.hid (HR3.out.same (same_below hb) HR3.out.lt)
  have HN4 := Lib.hid (HN3.out.same (same_below hb) HN3.out.lt)
  clear hb HB3 HG3 HD3 HR3 HN3
  have b0 : w4.cell? ⟨nb, 0, none⟩ = some (.string ⟨#[104, 116, 116, 112]⟩) := HN4.out.cell 0
  have b1 : w4.cell? ⟨nb, 1, none⟩ = some (.string ⟨#[97, 46, 98]⟩) := HN4.out.cell 1
  have b2 : w4.cell? ⟨nb, 2, none⟩ = some (.string ⟨#[]⟩) := HN4.out.cell 2
  have b3 : w4.cell? ⟨nb, 3, none⟩ = some (.string ⟨#[47, 99]⟩) := HN4.out.cell 3
  have b4 : w4.cell? ⟨nb, 4, none⟩ = some (.string ⟨#[]⟩) := HN4.out.cell 4
  have b5 : w4.cell? ⟨nb, 5, none⟩ = some (.bool false) := HN4.out.cell 5
  have b6 : w4.cell? ⟨nb, 6, none⟩ = some (.string ⟨#[]⟩) := HN4.out.cell 6
  have b7 : w4.cell? ⟨nb, 7, none⟩ = some (.bool false) := HN4.out.cell 7
  have r0 : w4.cell? ⟨w.heap.size + 1, 0, none⟩ = some (.string ⟨#[]⟩) := HR4.out.cell 0
  have r1 : w4.cell? ⟨w.heap.size + 1, 1, none⟩ = some (.string ⟨#[]⟩) := HR4.out.cell 1
  have r2 : w4.cell? ⟨w.heap.size + 1, 2, none⟩ = some (.string ⟨#[]⟩) := HR4.out.cell 2
  have r3 : w4.cell? ⟨w.heap.size + 1, 3, none⟩ = some (.string ⟨#[]⟩) := HR4.out.cell 3
  have r4 : w4.cell? ⟨w.heap.size + 1, 4, none⟩ = some (.string ⟨#[]⟩) := HR4.out.cell 4
  have r5 : w4.cell? ⟨w.heap.size + 1, 5, none⟩ = some (.bool false) := HR4.out.cell 5
  have r6 : w4.cell? ⟨w.heap.size + 1, 6, none⟩ = some (.string ⟨#[]⟩) := HR4.out.cell 6
  have r7 : w4.cell? ⟨w.heap.size + 1, 7, none⟩ = some (.bool false) := HR4.out.cell 7
  have g0 := HR4.out.frozen 0
  have g1 := HR4.out.frozen 1
  have g2 := HR4.out.frozen 2
  have g3 := HR4.out.frozen 3
  have g4 := HR4.out.frozen 4
  have g5 := HR4.out.frozen 5
  have g6 := HR4.out.frozen 6
  have g7 := HR4.out.frozen 7
  have HFK := Lib.hid ((((((((HR4.out.set_ 0 (.string ⟨#[104, 116, 116, 112]⟩)).set_ 1 (.string ⟨#[97, 46, 98]⟩)).set_ 2 (.string ⟨#[]⟩)).set_ 3 (.string ⟨#[47, 99]⟩)).set_ 4 (.string ⟨#[]⟩)).set_ 5 (.bool false)).set_ 6 (.string ⟨#[]⟩)).set_ 7 (.bool false))
  have HFL := Lib.hid ((((((((HB4.out.setCell (p := ⟨w.heap.size + 1, 0, none⟩) (Nat.le_succ _) (.string ⟨#[104, 116, 116, 112]⟩)).setCell (p := ⟨w.heap.size + 1, 1, none⟩) (Nat.le_succ _) (.string ⟨#[97, 46, 98]⟩)).setCell (p := ⟨w.heap.size + 1, 2, none⟩) (Nat.le_succ _) (.string ⟨#[]⟩)).setCell (p := ⟨w.heap.size + 1, 3, none⟩) (Nat.le_succ _) (.string ⟨#[47, 99]⟩)).setCell (p := ⟨w.heap.size + 1, 4, none⟩) (Nat.le_succ _) (.string ⟨#[]⟩)).setCell (p := ⟨w.heap.size + 1, 5, none⟩) (Nat.le_succ _) (.bool false)).setCell (p := ⟨w.heap.size + 1, 6, none⟩) (Nat.le_succ _) (.string ⟨#[]⟩)).setCell (p := ⟨w.heap.size + 1, 7, none⟩) (Nat.le_succ _) (.bool false))
  go_wp2_with fail
  refine bodyPost_ret (resultsA_row2 rfl _ _ (w.heap.size + 1) 80 [.string ⟨#[104, 116, 116, 112]⟩, .string ⟨#[97, 46, 98]⟩, .string ⟨#[]⟩, .string ⟨#[47, 99]⟩, .string ⟨#[]⟩, .bool false, .string ⟨#[]⟩, .bool false] _ rfl HFK.out Tryz.underlying80 rfl addr_info) rfl ?_
  exact ⟨rfl, HFL.out⟩
end Go.Proofs.YtnkdcmibafjplaaGreatDoor
namespace Go.Proofs.YtnkdcmibafjplaaGreatDoor
open Go.RowKit Go.Shelf
set_option linter.unusedVariables false
set_option linter.unusedSimpArgs false

set_option maxRecDepth 100000 in
set_option maxHeartbeats 2000000 in
theorem reverse_ab (kb : Nat) (w : World) (hk : Blk w kb 9 [.string ⟨#[97]⟩, .string ⟨#[98]⟩]) : Calls Tryz.prog 143 #[.slice (some ⟨kb, 0, none⟩) 2 2] w fun e w' => e = .returned (.tuple #[]) ∧ Blk w' kb 9 [.string ⟨#[98]⟩, .string ⟨#[97]⟩] ∧ Below kb w w' := by
  have HK := Lib.hid hk
  clear hk
  go_enter Tryz.func143, Tryz.ntmps143
  go_wp2_with fail
  go_loopw [2, 3] (fun vi vj wr => ∃ (a b : Value), a = vi ∧ b = vj ∧ Hid ((a = .int .i64 0 ∧ b = .int .i64 1 ∧ Hid (Blk wr kb 9 [.string ⟨#[97]⟩, .string ⟨#[98]⟩]) ∧ Hid (Below kb w wr)) ∨ (a = .int .i64 1 ∧ b = .int .i64 0 ∧ Hid (Blk wr kb 9 [.string ⟨#[98]⟩, .string ⟨#[97]⟩]) ∧ Hid (Below kb w wr)))) (fun vi _ _ => 1 - (intOf vi).toNat)
  case atStart => exact ⟨_, _, rfl, rfl, Lib.hid (.inl ⟨rfl, rfl, HK, Below.refl _ _⟩)⟩
  case round =>
    obtain ⟨a, b, rfl, rfl, HS⟩ := hrel
    rcases HS.out with ⟨rfl, rfl, HK1, HB1⟩ | ⟨rfl, rfl, HK1, HB1⟩
    · clear HS
      go_wp2_with fail
      refine wp_region_held_drew (S := fun _ => True) (by kernel_rfl) trivial (fun _ => ?_)
      obtain ⟨wq, hwq⟩ : ∃ wq, wq = World.drew wr := ⟨_, rfl⟩
      have HKQ : Hid (Blk wq kb 9 [.string ⟨#[97]⟩, .string ⟨#[98]⟩]) := Lib.hid (by rw [hwq]; exact HK1.out)
      have HBQ : Hid (Below kb w wq) := Lib.hid (by rw [hwq]; exact Below.drew HB1.out)
      rw [← hwq]
      clear hwq
      have q0 : wq.cell? ⟨kb, 0, none⟩ = some (.string ⟨#[97]⟩) := HKQ.out.cell 0
      have q1 : wq.cell? ⟨kb, 1, none⟩ = some (.string ⟨#[98]⟩) := HKQ.out.cell 1
      have z0 := HKQ.out.frozen 0
      have z1 := HKQ.out.frozen 1
      have x1 : (wq.setCell ⟨kb, 0, none⟩ (.string ⟨#[98]⟩)).cell? ⟨kb, 1, none⟩ = some (.string ⟨#[98]⟩) := (HKQ.out.set_ 0 (.string ⟨#[98]⟩)).cell 1
      have y1 := (HKQ.out.set_ 0 (.string ⟨#[98]⟩)).frozen 1
      have x0 : (wq.setCell ⟨kb, 1, none⟩ (.string ⟨#[97]⟩)).cell? ⟨kb, 0, none⟩ = some (.string ⟨#[97]⟩) := (HKQ.out.set_ 1 (.string ⟨#[97]⟩)).cell 0
      have y0 := (HKQ.out.set_ 1 (.string ⟨#[97]⟩)).frozen 0
      refine wpAnyH_take (i := 0) (v := ?_) rfl (by kernel_rfl) (by kernel_rfl) (by kernel_rfl) (fun _ _ _ h => h) (Or.inl ⟨by rfl, ?_⟩) trivial ?_
      rotate_left
      · (intro w hSw; go_simp; try with_reducible rfl)
      try simp only [List.getElem_toArray, List.getElem_cons_succ, List.getElem_cons_zero, Act.put, List.setIfInBounds_toArray, List.set_cons_zero, List.set_cons_succ]
      refine wpAnyH_take (i := 1) (v := ?_) rfl (by kernel_rfl) (by kernel_rfl) (by kernel_rfl) (fun _ _ _ h => h) (Or.inl ⟨by rfl, ?_⟩) trivial ?_
      rotate_left
      · (intro w hSw; go_simp; try with_reducible rfl)
      try simp only [List.getElem_toArray, List.getElem_cons_succ, List.getElem_cons_zero, Act.put, List.setIfInBounds_toArray, List.set_cons_zero, List.set_cons_succ]
      refine wpAnyH_take (i := 2) (v := ?_) rfl (by kernel_rfl) (by kernel_rfl) (by kernel_rfl) (fun _ _ _ h => h) (Or.inl ⟨by rfl, ?_⟩) trivial ?_
      rotate_left
      · (intro w hSw; go_simp; try with_reducible rfl)
      try simp only [List.getElem_toArray, List.getElem_cons_succ, List.getElem_cons_zero, Act.put, List.setIfInBounds_toArray, List.set_cons_zero, List.set_cons_succ]
      refine wpAnyH_take (i := 3) (v := ?_) rfl (by kernel_rfl) (by kernel_rfl) (by kernel_rfl) (fun _ _ _ h => h) (Or.inl ⟨by rfl, ?_⟩) trivial ?_
      rotate_left
      · (intro w hSw; go_simp; try with_reducible rfl)
      try simp only [List.getElem_toArray, List.getElem_cons_succ, List.getElem_cons_zero, Act.put, List.setIfInBounds_toArray, List.set_cons_zero, List.set_cons_succ]
      refine wpAnyH_take (i := 4) (v := ?_) rfl (by kernel_rfl) (by kernel_rfl) (by kernel_rfl) (fun _ _ _ h => h) (Or.inl ⟨by rfl, ?_⟩) trivial ?_
      rotate_left
      · (intro w hSw; go_simp; try with_reducible rfl)
      try simp only [List.getElem_toArray, List.getElem_cons_succ, List.getElem_cons_zero, Act.put, List.setIfInBounds_toArray, List.set_cons_zero, List.set_cons_succ]
      refine wpAnyH_take (i := 5) (v := ?_) rfl (by kernel_rfl) (by kernel_rfl) (by kernel_rfl) (fun _ _ _ h => h) (Or.inl ⟨by rfl, ?_⟩) trivial ?_
      rotate_left
      · (intro w hSw; go_simp; try with_reducible rfl)
      try simp only [List.getElem_toArray, List.getElem_cons_succ, List.getElem_cons_zero, Act.put, List.setIfInBounds_toArray, List.set_cons_zero, List.set_cons_succ]
      refine wpAnyH_take (i := 6) (v := ?_) rfl (by kernel_rfl) (by kernel_rfl) (by kernel_rfl) (fun _ _ _ h => h) (Or.inl ⟨by rfl, ?_⟩) trivial ?_
      rotate_left
      · (intro w hSw; go_simp; try with_reducible rfl)
      try simp only [List.getElem_toArray, List.getElem_cons_succ, List.getElem_cons_zero, Act.put, List.setIfInBounds_toArray, List.set_cons_zero, List.set_cons_succ]
      refine wpAnyH_take (i := 8) (v := ?_) rfl (by kernel_rfl) (by kernel_rfl) (by kernel_rfl) (fun _ _ _ h => h) (Or.inl ⟨by rfl, ?_⟩) trivial ?_
      rotate_left
      · (intro w hSw; go_simp; try with_reducible rfl)
      try simp only [List.getElem_toArray, List.getElem_cons_succ, List.getElem_cons_zero, Act.put, List.setIfInBounds_toArray, List.set_cons_zero, List.set_cons_succ]
      refine wpAnyH_take (i := 9) (v := ?_) rfl (by kernel_rfl) (by kernel_rfl) (by kernel_rfl) (fun _ _ _ h => h) (Or.inl ⟨by rfl, ?_⟩) trivial ?_
      rotate_left
      · (intro w hSw; go_simp; try with_reducible rfl)
      try simp only [List.getElem_toArray, List.getElem_cons_succ, List.getElem_cons_zero, Act.put, List.setIfInBounds_toArray, List.set_cons_zero, List.set_cons_succ]
      refine wpAnyH_take (i := 10) (v := ?_) rfl (by kernel_rfl) (by kernel_rfl) (by kernel_rfl) (fun _ _ _ h => h) (Or.inl ⟨by rfl, ?_⟩) trivial ?_
      rotate_left
      · (intro w hSw; go_simp; try with_reducible rfl)
      try simp only [List.getElem_toArray, List.getElem_cons_succ, List.getElem_cons_zero, Act.put, List.setIfInBounds_toArray, List.set_cons_zero, List.set_cons_succ]
      refine wpAnyH_ready (rs := [7, 11]) (by kernel_rfl) (by simp) ?_
      refine AllReadyH.cons rfl (fun K hK => ?_) (AllReadyH.cons rfl (fun K hK => ?_) AllReadyH.nil)
      · rw [if_pos (by rfl)]
        simp only [List.getElem_toArray, List.getElem_cons_succ, List.getElem_cons_zero]
        go_simp
        refine hK.out _ _ trivial (fun _ => ?_)
        clear hK K
        try simp only [List.getElem_toArray, List.getElem_cons_succ, List.getElem_cons_zero, Act.put, List.setIfInBounds_toArray, List.set_cons_zero, List.set_cons_succ]
        refine wpAnyH_ready (rs := [11]) (by kernel_rfl) (by simp) ?_
        refine AllReadyH.cons rfl (fun K hK => ?_) AllReadyH.nil
        rw [if_pos (by rfl)]
        simp only [List.getElem_toArray, List.getElem_cons_succ, List.getElem_cons_zero]
        go_simp
        refine hK.out _ _ trivial (fun _ => ?_)
        clear hK K
        try simp only [List.getElem_toArray, List.getElem_cons_succ, List.getElem_cons_zero, Act.put, List.setIfInBounds_toArray, List.set_cons_zero, List.set_cons_succ]
        refine wpAnyH_take (i := 12) (v := ?_) rfl (by kernel_rfl) (by kernel_rfl) (by kernel_rfl) (fun _ _ _ h => h) (Or.inl ⟨by rfl, ?_⟩) trivial ?_
        rotate_left
        · (intro w hSw; go_simp; try with_reducible rfl)
        try simp only [List.getElem_toArray, List.getElem_cons_succ, List.getElem_cons_zero, Act.put, List.setIfInBounds_toArray, List.set_cons_zero, List.set_cons_succ]
        refine wpAnyH_ready (rs := [13]) (by kernel_rfl) (by simp) ?_
        refine AllReadyH.cons rfl (fun K hK => ?_) AllReadyH.nil
        rw [if_pos (by rfl)]
        simp only [List.getElem_toArray, List.getElem_cons_succ, List.getElem_cons_zero]
        go_simp
        refine hK.out _ _ trivial (fun _ => ?_)
        clear hK K
        try simp only [List.getElem_toArray, List.getElem_cons_succ, List.getElem_cons_zero, Act.put, List.setIfInBounds_toArray, List.set_cons_zero, List.set_cons_succ]
        refine wpAnyH_take (i := 14) (v := ?_) rfl (by kernel_rfl) (by kernel_rfl) (by kernel_rfl) (fun _ _ _ h => h) (Or.inl ⟨by rfl, ?_⟩) trivial ?_
        rotate_left
        · (intro w hSw; go_simp; try with_reducible rfl)
        try simp only [List.getElem_toArray, List.getElem_cons_succ, List.getElem_cons_zero, Act.put, List.setIfInBounds_toArray, List.set_cons_zero, List.set_cons_succ]
        refine wpAnyH_ready (rs := [15]) (by kernel_rfl) (by simp) ?_
        refine AllReadyH.cons rfl (fun K hK => ?_) AllReadyH.nil
        rw [if_pos (by rfl)]
        simp only [List.getElem_toArray, List.getElem_cons_succ, List.getElem_cons_zero]
        go_simp
        refine hK.out _ _ trivial (fun _ => ?_)
        clear hK K
        try simp only [List.getElem_toArray, List.getElem_cons_succ, List.getElem_cons_zero, Act.put, List.setIfInBounds_toArray, List.set_cons_zero, List.set_cons_succ]
        refine wpAnyH_done (by kernel_rfl) ?_ _
        have HKZ : Hid (Blk ((wq.setCell ⟨kb, 0, none⟩ (.string ⟨#[98]⟩)).setCell ⟨kb, 1, none⟩ (.string ⟨#[97]⟩)) kb 9 [.string ⟨#[98]⟩, .string ⟨#[97]⟩]) := Lib.hid ((HKQ.out.set_ 0 (.string ⟨#[98]⟩)).set_ 1 (.string ⟨#[97]⟩))
        have HBZ : Hid (Below kb w ((wq.setCell ⟨kb, 0, none⟩ (.string ⟨#[98]⟩)).setCell ⟨kb, 1, none⟩ (.string ⟨#[97]⟩))) := Lib.hid (HBQ.out.trans (((Below.refl kb wq).setCell (p := ⟨kb, 0, none⟩) (Nat.le_refl _) (.string ⟨#[98]⟩)).setCell (p := ⟨kb, 1, none⟩) (Nat.le_refl _) (.string ⟨#[97]⟩)))
        generalize ((wq.setCell ⟨kb, 0, none⟩ (.string ⟨#[98]⟩)).setCell ⟨kb, 1, none⟩ (.string ⟨#[97]⟩)) = wz at *
        go_wp2_with fail
        go_roundw
        case rel => exact ⟨_, _, rfl, rfl, Lib.hid (.inr ⟨rfl, rfl, HKZ, HBZ⟩)⟩
        case measure => simp [intOf]
      · rw [if_pos (by rfl)]
        simp only [List.getElem_toArray, List.getElem_cons_succ, List.getElem_cons_zero]
        go_simp
        refine hK.out _ _ trivial (fun _ => ?_)
        clear hK K
        try simp only [List.getElem_toArray, List.getElem_cons_succ, List.getElem_cons_zero, Act.put, List.setIfInBounds_toArray, List.set_cons_zero, List.set_cons_succ]
        refine wpAnyH_ready (rs := [7]) (by kernel_rfl) (by simp) ?_
        refine AllReadyH.cons rfl (fun K hK => ?_) AllReadyH.nil
        rw [if_pos (by rfl)]
        simp only [List.getElem_toArray, List.getElem_cons_succ, List.getElem_cons_zero]
        go_simp
        refine hK.out _ _ trivial (fun _ => ?_)
        clear hK K
        try simp only [List.getElem_toArray, List.getElem_cons_succ, List.getElem_cons_zero, Act.put, List.setIfInBounds_toArray, List.set_cons_zero, List.set_cons_succ]
        refine wpAnyH_take (i := 12) (v := ?_) rfl (by kernel_rfl) (by kernel_rfl) (by kernel_rfl) (fun _ _ _ h => h) (Or.inl ⟨by rfl, ?_⟩) trivial ?_
        rotate_left
        · (intro w hSw; go_simp; try with_reducible rfl)
        try simp only [List.getElem_toArray, List.getElem_cons_succ, List.getElem_cons_zero, Act.put, List.setIfInBounds_toArray, List.set_cons_zero, List.set_cons_succ]
        refine wpAnyH_ready (rs := [13]) (by kernel_rfl) (by simp) ?_
        refine AllReadyH.cons rfl (fun K hK => ?_) AllReadyH.nil
        rw [if_pos (by rfl)]
        simp only [List.getElem_toArray, List.getElem_cons_succ, List.getElem_cons_zero]
        go_simp
        refine hK.out _ _ trivial (fun _ => ?_)
        clear hK K
        try simp only [List.getElem_toArray, List.getElem_cons_succ, List.getElem_cons_zero, Act.put, List.setIfInBounds_toArray, List.set_cons_zero, List.set_cons_succ]
        refine wpAnyH_take (i := 14) (v := ?_) rfl (by kernel_rfl) (by kernel_rfl) (by kernel_rfl) (fun _ _ _ h => h) (Or.inl ⟨by rfl, ?_⟩) trivial ?_
        rotate_left
        · (intro w hSw; go_simp; try with_reducible rfl)
        try simp only [List.getElem_toArray, List.getElem_cons_succ, List.getElem_cons_zero, Act.put, List.setIfInBounds_toArray, List.set_cons_zero, List.set_cons_succ]
        refine wpAnyH_ready (rs := [15]) (by kernel_rfl) (by simp) ?_
        refine AllReadyH.cons rfl (fun K hK => ?_) AllReadyH.nil
        rw [if_pos (by rfl)]
        simp only [List.getElem_toArray, List.getElem_cons_succ, List.getElem_cons_zero]
        go_simp
        refine hK.out _ _ trivial (fun _ => ?_)
        clear hK K
        try simp only [List.getElem_toArray, List.getElem_cons_succ, List.getElem_cons_zero, Act.put, List.setIfInBounds_toArray, List.set_cons_zero, List.set_cons_succ]
        refine wpAnyH_done (by kernel_rfl) ?_ _
        have HKZ : Hid (Blk ((wq.setCell ⟨kb, 0, none⟩ (.string ⟨#[98]⟩)).setCell ⟨kb, 1, none⟩ (.string ⟨#[97]⟩)) kb 9 [.string ⟨#[98]⟩, .string ⟨#[97]⟩]) := Lib.hid ((HKQ.out.set_ 0 (.string ⟨#[98]⟩)).set_ 1 (.string ⟨#[97]⟩))
        have HBZ : Hid (Below kb w ((wq.setCell ⟨kb, 0, none⟩ (.string ⟨#[98]⟩)).setCell ⟨kb, 1, none⟩ (.string ⟨#[97]⟩))) := Lib.hid (HBQ.out.trans (((Below.refl kb wq).setCell (p := ⟨kb, 0, none⟩) (Nat.le_refl _) (.string ⟨#[98]⟩)).setCell (p := ⟨kb, 1, none⟩) (Nat.le_refl _) (.string ⟨#[97]⟩)))
        generalize ((wq.setCell ⟨kb, 0, none⟩ (.string ⟨#[98]⟩)).setCell ⟨kb, 1, none⟩ (.string ⟨#[97]⟩)) = wz at *
        go_wp2_with fail
        go_roundw
        case rel => exact ⟨_, _, rfl, rfl, Lib.hid (.inr ⟨rfl, rfl, HKZ, HBZ⟩)⟩
        case measure => simp [intOf]
    · clear HS
      go_wp2_with fail
      go_end0
      exact ⟨rfl, HK1.out, HB1.out⟩
set_option maxRecDepth 100000 in
set_option maxHeartbeats 2000000 in
theorem turned_ab (w : World) (hG : GInt w) : Calls Tryz.prog 92 #[.string ⟨#[97, 46, 98]⟩, .string ⟨#[46]⟩, .string ⟨#[44]⟩] w fun e w' => e = .returned (.string ⟨#[98, 44, 97]⟩) ∧ Below w.heap.size w w' := by
  have HS := Lib.hid (split_ab w hG)
  have HB := Lib.hid ((Below.refl w.heap.size w).alloc (Nat.le_refl _) (.cells #[.string ⟨#[97]⟩, .string ⟨#[98]⟩] 9))
  have HK := Lib.hid (Blk.new w 9 [.string ⟨#[97]⟩, .string ⟨#[98]⟩])
  clear hG
  go_enter Tryz.func92, Tryz.ntmps92
  go_wp2_with fail
  refine HS.out.mono ?_
  rintro e w1 ⟨rfl, hw⟩
  rw [← hw] at HB HK
  clear hw HS
  go_wp2_with fail
  refine (reverse_ab w.heap.size w1 HK.out).mono ?_
  rintro e w2 ⟨rfl, hk2, hb2⟩
  have HK2 := Lib.hid hk2
  have HB2 := Lib.hid (HB.out.trans hb2)
  clear hk2 hb2 HK HB
  go_wp2_with fail
  refine (join_ba w.heap.size 2 w2 (fun j hj => HK2.out.cell j) HK2.out.lt (by decide)).mono ?_
  rintro e w3 ⟨rfl, hb3⟩
  have HB3 := Lib.hid (ext_trans HB2.out hb3)
  clear hb3
  go_wp2_with fail
  go_ret
  exact ⟨rfl, HB3.out⟩
set_option maxRecDepth 100000 in
set_option maxHeartbeats 2000000 in
theorem key_ab (w : World) (hG : GInt w) : Calls Tryz.prog 56 #[.agg #[.string ⟨#[104, 116, 116, 112]⟩, .string ⟨#[97, 46, 98]⟩, .string ⟨#[]⟩, .string ⟨#[47, 99]⟩, .string ⟨#[]⟩, .bool false, .string ⟨#[]⟩, .bool false], .slice none 0 0] w fun e w' => e = .returned (.string ⟨#[98, 44, 97, 41, 47, 99]⟩) ∧ Below w.heap.size w w' := by
  have hk := Blk.new w 80 [.string ⟨#[104, 116, 116, 112]⟩, .string ⟨#[97, 46, 98]⟩, .string ⟨#[]⟩, .string ⟨#[47, 99]⟩, .string ⟨#[]⟩, .bool false, .string ⟨#[]⟩, .bool false]
  have hab := (Below.refl w.heap.size w).alloc (Nat.le_refl _) (.cells #[.string ⟨#[104, 116, 116, 112]⟩, .string ⟨#[97, 46, 98]⟩, .string ⟨#[]⟩, .string ⟨#[47, 99]⟩, .string ⟨#[]⟩, .bool false, .string ⟨#[]⟩, .bool false] 80)
  have HD0 : Hid (Blk (w.alloc (.cells #[.string ⟨#[104, 116, 116, 112]⟩, .string ⟨#[97, 46, 98]⟩, .string ⟨#[]⟩, .string ⟨#[47, 99]⟩, .string ⟨#[]⟩, .bool false, .string ⟨#[]⟩, .bool false] 80)) w.heap.size 80 [.string ⟨#[104, 116, 116, 112]⟩, .string ⟨#[97, 46, 98]⟩, .string ⟨#[]⟩, .string ⟨#[47, 99]⟩, .string ⟨#[]⟩, .bool false, .string ⟨#[]⟩, .bool false]) := Lib.hid hk
  have HB0 := Lib.hid hab
  have HG0 := Lib.hid (hG.ext hab)
  have HGW := Lib.hid hG
  clear hk hab hG
  have a0 : (w.alloc (.cells #[.string ⟨#[104, 116, 116, 112]⟩, .string ⟨#[97, 46, 98]⟩, .string ⟨#[]⟩, .string ⟨#[47, 99]⟩, .string ⟨#[]⟩, .bool false, .string ⟨#[]⟩, .bool false] 80)).cell? ⟨w.heap.size, 0, none⟩ = some (.string ⟨#[104, 116, 116, 112]⟩) := HD0.out.cell 0
  have a1 : (w.alloc (.cells #[.string ⟨#[104, 116, 116, 112]⟩, .string ⟨#[97, 46, 98]⟩, .string ⟨#[]⟩, .string ⟨#[47, 99]⟩, .string ⟨#[]⟩, .bool false, .string ⟨#[]⟩, .bool false] 80)).cell? ⟨w.heap.size, 1, none⟩ = some (.string ⟨#[97, 46, 98]⟩) := HD0.out.cell 1
  have a2 : (w.alloc (.cells #[.string ⟨#[104, 116, 116, 112]⟩, .string ⟨#[97, 46, 98]⟩, .string ⟨#[]⟩, .string ⟨#[47, 99]⟩, .string ⟨#[]⟩, .bool false, .string ⟨#[]⟩, .bool false] 80)).cell? ⟨w.heap.size, 2, none⟩ = some (.string ⟨#[]⟩) := HD0.out.cell 2
  have a3 : (w.alloc (.cells #[.string ⟨#[104, 116, 116, 112]⟩, .string ⟨#[97, 46, 98]⟩, .string ⟨#[]⟩, .string ⟨#[47, 99]⟩, .string ⟨#[]⟩, .bool false, .string ⟨#[]⟩, .bool false] 80)).cell? ⟨w.heap.size, 3, none⟩ = some (.string ⟨#[47, 99]⟩) := HD0.out.cell 3
  have a4 : (w.alloc (.cells #[.string ⟨#[104, 116, 116, 112]⟩, .string ⟨#[97, 46, 98]⟩, .string ⟨#[]⟩, .string ⟨#[47, 99]⟩, .string ⟨#[]⟩, .bool false, .string ⟨#[]⟩, .bool false] 80)).cell? ⟨w.heap.size, 4, none⟩ = some (.string ⟨#[]⟩) := HD0.out.cell 4
  have a5 : (w.alloc (.cells #[.string ⟨#[104, 116, 116, 112]⟩, .string ⟨#[97, 46, 98]⟩, .string ⟨#[]⟩, .string ⟨#[47, 99]⟩, .string ⟨#[]⟩, .bool false, .string ⟨#[]⟩, .bool false] 80)).cell? ⟨w.heap.size, 5, none⟩ = some (.bool false) := HD0.out.cell 5
  have a6 : (w.alloc (.cells #[.string ⟨#[104, 116, 116, 112]⟩, .string ⟨#[97, 46, 98]⟩, .string ⟨#[]⟩, .string ⟨#[47, 99]⟩, .string ⟨#[]⟩, .bool false, .string ⟨#[]⟩, .bool false] 80)).cell? ⟨w.heap.size, 6, none⟩ = some (.string ⟨#[]⟩) := HD0.out.cell 6
  have a7 : (w.alloc (.cells #[.string ⟨#[104, 116, 116, 112]⟩, .string ⟨#[97, 46, 98]⟩, .string ⟨#[]⟩, .string ⟨#[47, 99]⟩, .string ⟨#[]⟩, .bool false, .string ⟨#[]⟩, .bool false] 80)).cell? ⟨w.heap.size, 7, none⟩ = some (.bool false) := HD0.out.cell 7
  go_enter Tryz.func56, Tryz.ntmps56
  go_wp2_with fail
  refine (normal_ab _ HG0.out).mono ?_
  rintro e w1 ⟨rfl, hb⟩
  have HB1 := Lib.hid (ext_trans HB0.out hb)
  have HG1 := Lib.hid (HG0.out.ext hb)
  have HD1 := Lib.hid (HD0.out.same (same_below hb) HD0.out.lt)
  clear hb HB0 HG0 HD0
  clear a0 a1 a2 a3 a4 a5 a6 a7
  have a0 : w1.cell? ⟨w.heap.size, 0, none⟩ = some (.string ⟨#[104, 116, 116, 112]⟩) := HD1.out.cell 0
  have a1 : w1.cell? ⟨w.heap.size, 1, none⟩ = some (.string ⟨#[97, 46, 98]⟩) := HD1.out.cell 1
  have a2 : w1.cell? ⟨w.heap.size, 2, none⟩ = some (.string ⟨#[]⟩) := HD1.out.cell 2
  have a3 : w1.cell? ⟨w.heap.size, 3, none⟩ = some (.string ⟨#[47, 99]⟩) := HD1.out.cell 3
  have a4 : w1.cell? ⟨w.heap.size, 4, none⟩ = some (.string ⟨#[]⟩) := HD1.out.cell 4
  have a5 : w1.cell? ⟨w.heap.size, 5, none⟩ = some (.bool false) := HD1.out.cell 5
  have a6 : w1.cell? ⟨w.heap.size, 6, none⟩ = some (.string ⟨#[]⟩) := HD1.out.cell 6
  have a7 : w1.cell? ⟨w.heap.size, 7, none⟩ = some (.bool false) := HD1.out.cell 7
  have g0 := HD1.out.frozen 0
  have g1 := HD1.out.frozen 1
  have g2 := HD1.out.frozen 2
  have g3 := HD1.out.frozen 3
  have g4 := HD1.out.frozen 4
  have g5 := HD1.out.frozen 5
  have g6 := HD1.out.frozen 6
  have g7 := HD1.out.frozen 7
  have HD2 : Hid (Blk ((((((((w1.setCell ⟨w.heap.size, 0, none⟩ (.string ⟨#[104, 116, 116, 112]⟩)).setCell ⟨w.heap.size, 1, none⟩ (.string ⟨#[97, 46, 98]⟩)).setCell ⟨w.heap.size, 2, none⟩ (.string ⟨#[]⟩)).setCell ⟨w.heap.size, 3, none⟩ (.string ⟨#[47, 99]⟩)).setCell ⟨w.heap.size, 4, none⟩ (.string ⟨#[]⟩)).setCell ⟨w.heap.size, 5, none⟩ (.bool false)).setCell ⟨w.heap.size, 6, none⟩ (.string ⟨#[]⟩)).setCell ⟨w.heap.size, 7, none⟩ (.bool false)) w.heap.size 80 [.string ⟨#[104, 116, 116, 112]⟩, .string ⟨#[97, 46, 98]⟩, .string ⟨#[]⟩, .string ⟨#[47, 99]⟩, .string ⟨#[]⟩, .bool false, .string ⟨#[]⟩, .bool false]) := Lib.hid ((((((((HD1.out.set_ 0 (.string ⟨#[104, 116, 116, 112]⟩)).set_ 1 (.string ⟨#[97, 46, 98]⟩)).set_ 2 (.string ⟨#[]⟩)).set_ 3 (.string ⟨#[47, 99]⟩)).set_ 4 (.string ⟨#[]⟩)).set_ 5 (.bool false)).set_ 6 (.string ⟨#[]⟩)).set_ 7 (.bool false))
  have HB2 : Hid (Below w.heap.size w ((((((((w1.setCell ⟨w.heap.size, 0, none⟩ (.string ⟨#[104, 116, 116, 112]⟩)).setCell ⟨w.heap.size, 1, none⟩ (.string ⟨#[97, 46, 98]⟩)).setCell ⟨w.heap.size, 2, none⟩ (.string ⟨#[]⟩)).setCell ⟨w.heap.size, 3, none⟩ (.string ⟨#[47, 99]⟩)).setCell ⟨w.heap.size, 4, none⟩ (.string ⟨#[]⟩)).setCell ⟨w.heap.size, 5, none⟩ (.bool false)).setCell ⟨w.heap.size, 6, none⟩ (.string ⟨#[]⟩)).setCell ⟨w.heap.size, 7, none⟩ (.bool false))) := Lib.hid ((((((((HB1.out.setCell (p := ⟨w.heap.size, 0, none⟩) (Nat.le_refl _) (.string ⟨#[104, 116, 116, 112]⟩)).setCell (p := ⟨w.heap.size, 1, none⟩) (Nat.le_refl _) (.string ⟨#[97, 46, 98]⟩)).setCell (p := ⟨w.heap.size, 2, none⟩) (Nat.le_refl _) (.string ⟨#[]⟩)).setCell (p := ⟨w.heap.size, 3, none⟩) (Nat.le_refl _) (.string ⟨#[47, 99]⟩)).setCell (p := ⟨w.heap.size, 4, none⟩) (Nat.le_refl _) (.string ⟨#[]⟩)).setCell (p := ⟨w.heap.size, 5, none⟩) (Nat.le_refl _) (.bool false)).setCell (p := ⟨w.heap.size, 6, none⟩) (Nat.le_refl _) (.string ⟨#[]⟩)).setCell (p := ⟨w.heap.size, 7, none⟩) (Nat.le_refl _) (.bool false))
  have HG2 := Lib.hid (HGW.out.ext HB2.out)
  have b0 : ((((((((w1.setCell ⟨w.heap.size, 0, none⟩ (.string ⟨#[104, 116, 116, 112]⟩)).setCell ⟨w.heap.size, 1, none⟩ (.string ⟨#[97, 46, 98]⟩)).setCell ⟨w.heap.size, 2, none⟩ (.string ⟨#[]⟩)).setCell ⟨w.heap.size, 3, none⟩ (.string ⟨#[47, 99]⟩)).setCell ⟨w.heap.size, 4, none⟩ (.string ⟨#[]⟩)).setCell ⟨w.heap.size, 5, none⟩ (.bool false)).setCell ⟨w.heap.size, 6, none⟩ (.string ⟨#[]⟩)).setCell ⟨w.heap.size, 7, none⟩ (.bool false)).cell? ⟨w.heap.size, 0, none⟩ = some (.string ⟨#[104, 116, 116, 112]⟩) := HD2.out.cell 0
  have b1 : ((((((((w1.setCell ⟨w.heap.size, 0, none⟩ (.string ⟨#[104, 116, 116, 112]⟩)).setCell ⟨w.heap.size, 1, none⟩ (.string ⟨#[97, 46, 98]⟩)).setCell ⟨w.heap.size, 2, none⟩ (.string ⟨#[]⟩)).setCell ⟨w.heap.size, 3, none⟩ (.string ⟨#[47, 99]⟩)).setCell ⟨w.heap.size, 4, none⟩ (.string ⟨#[]⟩)).setCell ⟨w.heap.size, 5, none⟩ (.bool false)).setCell ⟨w.heap.size, 6, none⟩ (.string ⟨#[]⟩)).setCell ⟨w.heap.size, 7, none⟩ (.bool false)).cell? ⟨w.heap.size, 1, none⟩ = some (.string ⟨#[97, 46, 98]⟩) := HD2.out.cell 1
  have b2 : ((((((((w1.setCell ⟨w.heap.size, 0, none⟩ (.string ⟨#[104, 116, 116, 112]⟩)).setCell ⟨w.heap.size, 1, none⟩ (.string ⟨#[97, 46, 98]⟩)).setCell ⟨w.heap.size, 2, none⟩ (.string ⟨#[]⟩)).setCell ⟨w.heap.size, 3, none⟩ (.string ⟨#[47, 99]⟩)).setCell ⟨w.heap.size, 4, none⟩ (.string ⟨#[]⟩)).setCell ⟨w.heap.size, 5, none⟩ (.bool false)).setCell ⟨w.heap.size, 6, none⟩ (.string ⟨#[]⟩)).setCell ⟨w.heap.size, 7, none⟩ (.bool false)).cell? ⟨w.heap.size, 2, none⟩ = some (.string ⟨#[]⟩) := HD2.out.cell 2
  have b3 : ((((((((w1.setCell ⟨w.heap.size, 0, none⟩ (.string ⟨#[104, 116, 116, 112]⟩)).setCell ⟨w.heap.size, 1, none⟩ (.string ⟨#[97, 46, 98]⟩)).setCell ⟨w.heap.size, 2, none⟩ (.string ⟨#[]⟩)).setCell ⟨w.heap.size, 3, none⟩ (.string ⟨#[47, 99]⟩)).setCell ⟨w.heap.size, 4, none⟩ (.string ⟨#[]⟩)).setCell ⟨w.heap.size, 5, none⟩ (.bool false)).setCell ⟨w.heap.size, 6, none⟩ (.string ⟨#[]⟩)).setCell ⟨w.heap.size, 7, none⟩ (.bool false)).cell? ⟨w.heap.size, 3, none⟩ = some (.string ⟨#[47, 99]⟩) := HD2.out.cell 3
  have b4 : ((((((((w1.setCell ⟨w.heap.size, 0, none⟩ (.string ⟨#[104, 116, 116, 112]⟩)).setCell ⟨w.heap.size, 1, none⟩ (.string ⟨#[97, 46, 98]⟩)).setCell ⟨w.heap.size, 2, none⟩ (.string ⟨#[]⟩)).setCell ⟨w.heap.size, 3, none⟩ (.string ⟨#[47, 99]⟩)).setCell ⟨w.heap.size, 4, none⟩ (.string ⟨#[]⟩)).setCell ⟨w.heap.size, 5, none⟩ (.bool false)).setCell ⟨w.heap.size, 6, none⟩ (.string ⟨#[]⟩)).setCell ⟨w.heap.size, 7, none⟩ (.bool false)).cell? ⟨w.heap.size, 4, none⟩ = some (.string ⟨#[]⟩) := HD2.out.cell 4
  have b5 : ((((((((w1.setCell ⟨w.heap.size, 0, none⟩ (.string ⟨#[104, 116, 116, 112]⟩)).setCell ⟨w.heap.size, 1, none⟩ (.string ⟨#[97, 46, 98]⟩)).setCell ⟨w.heap.size, 2, none⟩ (.string ⟨#[]⟩)).setCell ⟨w.heap.size, 3, none⟩ (.string ⟨#[47, 99]⟩)).setCell ⟨w.heap.size, 4, none⟩ (.string ⟨#[]⟩)).setCell ⟨w.heap.size, 5, none⟩ (.bool false)).setCell ⟨w.heap.size, 6, none⟩ (.string ⟨#[]⟩)).setCell ⟨w.heap.size, 7, none⟩ (.bool false)).cell? ⟨w.heap.size, 5, none⟩ = some (.bool false) := HD2.out.cell 5
  have b6 : ((((((((w1.setCell ⟨w.heap.size, 0, none⟩ (.string ⟨#[104, 116, 116, 112]⟩)).setCell ⟨w.heap.size, 1, none⟩ (.string ⟨#[97, 46, 98]⟩)).setCell ⟨w.heap.size, 2, none⟩ (.string ⟨#[]⟩)).setCell ⟨w.heap.size, 3, none⟩ (.string ⟨#[47, 99]⟩)).setCell ⟨w.heap.size, 4, none⟩ (.string ⟨#[]⟩)).setCell ⟨w.heap.size, 5, none⟩ (.bool false)).setCell ⟨w.heap.size, 6, none⟩ (.string ⟨#[]⟩)).setCell ⟨w.heap.size, 7, none⟩ (.bool false)).cell? ⟨w.heap.size, 6, none⟩ = some (.string ⟨#[]⟩) := HD2.out.cell 6
  have b7 : ((((((((w1.setCell ⟨w.heap.size, 0, none⟩ (.string ⟨#[104, 116, 116, 112]⟩)).setCell ⟨w.heap.size, 1, none⟩ (.string ⟨#[97, 46, 98]⟩)).setCell ⟨w.heap.size, 2, none⟩ (.string ⟨#[]⟩)).setCell ⟨w.heap.size, 3, none⟩ (.string ⟨#[47, 99]⟩)).setCell ⟨w.heap.size, 4, none⟩ (.string ⟨#[]⟩)).setCell ⟨w.heap.size, 5, none⟩ (.bool false)).setCell ⟨w.heap.size, 6, none⟩ (.string ⟨#[]⟩)).setCell ⟨w.heap.size, 7, none⟩ (.bool false)).cell? ⟨w.heap.size, 7, none⟩ = some (.bool false) := HD2.out.cell 7
  go_wp2_with fail
  clear a0 a1 a2 a3 a4 a5 a6 a7 g0 g1 g2 g3 g4 g5 g6 g7 b0 b1 b2 b3 b4 b5 b6 b7
  generalize ((((((((w1.setCell ⟨w.heap.size, 0, none⟩ (.string ⟨#[104, 116, 116, 112]⟩)).setCell ⟨w.heap.size, 1, none⟩ (.string ⟨#[97, 46, 98]⟩)).setCell ⟨w.heap.size, 2, none⟩ (.string ⟨#[]⟩)).setCell ⟨w.heap.size, 3, none⟩ (.string ⟨#[47, 99]⟩)).setCell ⟨w.heap.size, 4, none⟩ (.string ⟨#[]⟩)).setCell ⟨w.heap.size, 5, none⟩ (.bool false)).setCell ⟨w.heap.size, 6, none⟩ (.string ⟨#[]⟩)).setCell ⟨w.heap.size, 7, none⟩ (.bool false)) = w2 at *
  refine (cut_ab _).mono ?_
  rintro e wq ⟨rfl, hw⟩
  subst hw
  go_wp2_with fail
  refine (turned_ab _ HG2.out).mono ?_
  rintro e w3 ⟨rfl, hb⟩
  have HB3 := Lib.hid (ext_trans HB2.out hb)
  have HG3 := Lib.hid (HG2.out.ext hb)
  have HD3 := Lib.hid (HD2.out.same (same_below hb) HD2.out.lt)
  clear hb HB2 HG2 HD2
  have b0 : w3.cell? ⟨w.heap.size, 0, none⟩ = some (.string ⟨#[104, 116, 116, 112]⟩) := HD3.out.cell 0
  have b1 : w3.cell? ⟨w.heap.size, 1, none⟩ = some (.string ⟨#[97, 46, 98]⟩) := HD3.out.cell 1
  have b2 : w3.cell? ⟨w.heap.size, 2, none⟩ = some (.string ⟨#[]⟩) := HD3.out.cell 2
  have b3 : w3.cell? ⟨w.heap.size, 3, none⟩ = some (.string ⟨#[47, 99]⟩) := HD3.out.cell 3
  have b4 : w3.cell? ⟨w.heap.size, 4, none⟩ = some (.string ⟨#[]⟩) := HD3.out.cell 4
  have b5 : w3.cell? ⟨w.heap.size, 5, none⟩ = some (.bool false) := HD3.out.cell 5
  have b6 : w3.cell? ⟨w.heap.size, 6, none⟩ = some (.string ⟨#[]⟩) := HD3.out.cell 6
  have b7 : w3.cell? ⟨w.heap.size, 7, none⟩ = some (.bool false) := HD3.out.cell 7
  go_wp2_with fail
  refine (pathOf_c _).mono ?_
  rintro e w4 ⟨rfl, hb⟩
  have HB4 := Lib.hid (ext_trans HB3.out hb)
  have HG4 := Lib.hid (HG3.out.ext hb)
  have HD4 := Lib.hid (HD3.out.same (same_below hb) HD3.out.lt)
  clear hb HB3 HG3 HD3
  clear b0 b1 b2 b3 b4 b5 b6 b7
  have b0 : w4.cell? ⟨w.heap.size, 0, none⟩ = some (.string ⟨#[104, 116, 116, 112]⟩) := HD4.out.cell 0
  have b1 : w4.cell? ⟨w.heap.size, 1, none⟩ = some (.string ⟨#[97, 46, 98]⟩) := HD4.out.cell 1
  have b2 : w4.cell? ⟨w.heap.size, 2, none⟩ = some (.string ⟨#[]⟩) := HD4.out.cell 2
  have b3 : w4.cell? ⟨w.heap.size, 3, none⟩ = some (.string ⟨#[47, 99]⟩) := HD4.out.cell 3
  have b4 : w4.cell? ⟨w.heap.size, 4, none⟩ = some (.string ⟨#[]⟩) := HD4.out.cell 4
  have b5 : w4.cell? ⟨w.heap.size, 5, none⟩ = some (.bool false) := HD4.out.cell 5
  have b6 : w4.cell? ⟨w.heap.size, 6, none⟩ = some (.string ⟨#[]⟩) := HD4.out.cell 6
  have b7 : w4.cell? ⟨w.heap.size, 7, none⟩ = some (.bool false) := HD4.out.cell 7
  go_wp2_with fail
  go_ret
  exact ⟨rfl, HB4.out⟩
set_option maxRecDepth 100000 in
set_option maxHeartbeats 2000000 in
theorem keyTop_ab (w : World) (hG : GInt w) : Calls Tryz.prog 20 #[.agg #[.string ⟨#[104, 116, 116, 112]⟩, .string ⟨#[97, 46, 98]⟩, .string ⟨#[]⟩, .string ⟨#[47, 99]⟩, .string ⟨#[]⟩, .bool false, .string ⟨#[]⟩, .bool false], .slice none 0 0] w fun e w' => e = .returned (.tuple #[.string ⟨#[98, 44, 97, 41, 47, 99]⟩, .int .i64 0]) ∧ Below w.heap.size w w' := by
  have hk := Blk.new w 80 [.string ⟨#[104, 116, 116, 112]⟩, .string ⟨#[97, 46, 98]⟩, .string ⟨#[]⟩, .string ⟨#[47, 99]⟩, .string ⟨#[]⟩, .bool false, .string ⟨#[]⟩, .bool false]
  have hab := (Below.refl w.heap.size w).alloc (Nat.le_refl _) (.cells #[.string ⟨#[104, 116, 116, 112]⟩, .string ⟨#[97, 46, 98]⟩, .string ⟨#[]⟩, .string ⟨#[47, 99]⟩, .string ⟨#[]⟩, .bool false, .string ⟨#[]⟩, .bool false] 80)
  have HD0 : Hid (Blk (w.alloc (.cells #[.string ⟨#[104, 116, 116, 112]⟩, .string ⟨#[97, 46, 98]⟩, .string ⟨#[]⟩, .string ⟨#[47, 99]⟩, .string ⟨#[]⟩, .bool false, .string ⟨#[]⟩, .bool false] 80)) w.heap.size 80 [.string ⟨#[104, 116, 116, 112]⟩, .string ⟨#[97, 46, 98]⟩, .string ⟨#[]⟩, .string ⟨#[47, 99]⟩, .string ⟨#[]⟩, .bool false, .string ⟨#[]⟩, .bool false]) := Lib.hid hk
  have HB0 := Lib.hid hab
  have HG0 := Lib.hid (hG.ext hab)
  clear hk hab hG
  have a0 : (w.alloc (.cells #[.string ⟨#[104, 116, 116, 112]⟩, .string ⟨#[97, 46, 98]⟩, .string ⟨#[]⟩, .string ⟨#[47, 99]⟩, .string ⟨#[]⟩, .bool false, .string ⟨#[]⟩, .bool false] 80)).cell? ⟨w.heap.size, 0, none⟩ = some (.string ⟨#[104, 116, 116, 112]⟩) := HD0.out.cell 0
  have a1 : (w.alloc (.cells #[.string ⟨#[104, 116, 116, 112]⟩, .string ⟨#[97, 46, 98]⟩, .string ⟨#[]⟩, .string ⟨#[47, 99]⟩, .string ⟨#[]⟩, .bool false, .string ⟨#[]⟩, .bool false] 80)).cell? ⟨w.heap.size, 1, none⟩ = some (.string ⟨#[97, 46, 98]⟩) := HD0.out.cell 1
  have a2 : (w.alloc (.cells #[.string ⟨#[104, 116, 116, 112]⟩, .string ⟨#[97, 46, 98]⟩, .string ⟨#[]⟩, .string ⟨#[47, 99]⟩, .string ⟨#[]⟩, .bool false, .string ⟨#[]⟩, .bool false] 80)).cell? ⟨w.heap.size, 2, none⟩ = some (.string ⟨#[]⟩) := HD0.out.cell 2
  have a3 : (w.alloc (.cells #[.string ⟨#[104, 116, 116, 112]⟩, .string ⟨#[97, 46, 98]⟩, .string ⟨#[]⟩, .string ⟨#[47, 99]⟩, .string ⟨#[]⟩, .bool false, .string ⟨#[]⟩, .bool false] 80)).cell? ⟨w.heap.size, 3, none⟩ = some (.string ⟨#[47, 99]⟩) := HD0.out.cell 3
  have a4 : (w.alloc (.cells #[.string ⟨#[104, 116, 116, 112]⟩, .string ⟨#[97, 46, 98]⟩, .string ⟨#[]⟩, .string ⟨#[47, 99]⟩, .string ⟨#[]⟩, .bool false, .string ⟨#[]⟩, .bool false] 80)).cell? ⟨w.heap.size, 4, none⟩ = some (.string ⟨#[]⟩) := HD0.out.cell 4
  have a5 : (w.alloc (.cells #[.string ⟨#[104, 116, 116, 112]⟩, .string ⟨#[97, 46, 98]⟩, .string ⟨#[]⟩, .string ⟨#[47, 99]⟩, .string ⟨#[]⟩, .bool false, .string ⟨#[]⟩, .bool false] 80)).cell? ⟨w.heap.size, 5, none⟩ = some (.bool false) := HD0.out.cell 5
  have a6 : (w.alloc (.cells #[.string ⟨#[104, 116, 116, 112]⟩, .string ⟨#[97, 46, 98]⟩, .string ⟨#[]⟩, .string ⟨#[47, 99]⟩, .string ⟨#[]⟩, .bool false, .string ⟨#[]⟩, .bool false] 80)).cell? ⟨w.heap.size, 6, none⟩ = some (.string ⟨#[]⟩) := HD0.out.cell 6
  have a7 : (w.alloc (.cells #[.string ⟨#[104, 116, 116, 112]⟩, .string ⟨#[97, 46, 98]⟩, .string ⟨#[]⟩, .string ⟨#[47, 99]⟩, .string ⟨#[]⟩, .bool false, .string ⟨#[]⟩, .bool false] 80)).cell? ⟨w.heap.size, 7, none⟩ = some (.bool false) := HD0.out.cell 7
  go_enter Tryz.func20, Tryz.ntmps20
  go_wp2_with fail
  refine (check_ab _ HG0.out).mono ?_
  rintro e w1 ⟨rfl, hb⟩
  have HB1 := Lib.hid (ext_trans HB0.out hb)
  have HG1 := Lib.hid (HG0.out.ext hb)
  have HD1 := Lib.hid (HD0.out.same (same_below hb) HD0.out.lt)
  clear hb HB0 HG0 HD0
  clear a0 a1 a2 a3 a4 a5 a6 a7
  have a0 : w1.cell? ⟨w.heap.size, 0, none⟩ = some (.string ⟨#[104, 116, 116, 112]⟩) := HD1.out.cell 0
  have a1 : w1.cell? ⟨w.heap.size, 1, none⟩ = some (.string ⟨#[97, 46, 98]⟩) := HD1.out.cell 1
  have a2 : w1.cell? ⟨w.heap.size, 2, none⟩ = some (.string ⟨#[]⟩) := HD1.out.cell 2
  have a3 : w1.cell? ⟨w.heap.size, 3, none⟩ = some (.string ⟨#[47, 99]⟩) := HD1.out.cell 3
  have a4 : w1.cell? ⟨w.heap.size, 4, none⟩ = some (.string ⟨#[]⟩) := HD1.out.cell 4
  have a5 : w1.cell? ⟨w.heap.size, 5, none⟩ = some (.bool false) := HD1.out.cell 5
  have a6 : w1.cell? ⟨w.heap.size, 6, none⟩ = some (.string ⟨#[]⟩) := HD1.out.cell 6
  have a7 : w1.cell? ⟨w.heap.size, 7, none⟩ = some (.bool false) := HD1.out.cell 7
  go_wp2_with fail
  refine (same_nil _).mono ?_
  rintro e wq ⟨rfl, hw⟩
  subst hw
  go_wp2_with fail
  refine (normalTop_ab _ HG1.out).mono ?_
  rintro e w2 ⟨rfl, hb⟩
  have HB2 := Lib.hid (ext_trans HB1.out hb)
  have HG2 := Lib.hid (HG1.out.ext hb)
  have HD2 := Lib.hid (HD1.out.same (same_below hb) HD1.out.lt)
  clear hb HB1 HG1 HD1
  clear a0 a1 a2 a3 a4 a5 a6 a7
  have hb := (Below.refl w2.heap.size w2).alloc (Nat.le_refl _) (.cells #[.string ⟨#[104, 116, 116, 112]⟩, .string ⟨#[97, 46, 98]⟩, .string ⟨#[]⟩, .string ⟨#[47, 99]⟩, .string ⟨#[]⟩, .bool false, .string ⟨#[]⟩, .bool false] 80)
  have HB3 := Lib.hid (ext_trans HB2.out hb)
  have HG3 := Lib.hid (HG2.out.ext hb)
  have HD3 := Lib.hid (HD2.out.same (same_below hb) HD2.out.lt)
  clear hb HB2 HG2 HD2
  have b0 : (w2.alloc (.cells #[.string ⟨#[104, 116, 116, 112]⟩, .string ⟨#[97, 46, 98]⟩, .string ⟨#[]⟩, .string ⟨#[47, 99]⟩, .string ⟨#[]⟩, .bool false, .string ⟨#[]⟩, .bool false] 80)).cell? ⟨w.heap.size, 0, none⟩ = some (.string ⟨#[104, 116, 116, 112]⟩) := HD3.out.cell 0
  have b1 : (w2.alloc (.cells #[.string ⟨#[104, 116, 116, 112]⟩, .string ⟨#[97, 46, 98]⟩, .string ⟨#[]⟩, .string ⟨#[47, 99]⟩, .string ⟨#[]⟩, .bool false, .string ⟨#[]⟩, .bool false] 80)).cell? ⟨w.heap.size, 1, none⟩ = some (.string ⟨#[97, 46, 98]⟩) := HD3.out.cell 1
  have b2 : (w2.alloc (.cells #[.string ⟨#[104, 116, 116, 112]⟩, .string ⟨#[97, 46, 98]⟩, .string ⟨#[]⟩, .string ⟨#[47, 99]⟩, .string ⟨#[]⟩, .bool false, .string ⟨#[]⟩, .bool false] 80)).cell? ⟨w.heap.size, 2, none⟩ = some (.string ⟨#[]⟩) := HD3.out.cell 2
  have b3 : (w2.alloc (.cells #[.string ⟨#[104, 116, 116, 112]⟩, .string ⟨#[97, 46, 98]⟩, .string ⟨#[]⟩, .string ⟨#[47, 99]⟩, .string ⟨#[]⟩, .bool false, .string ⟨#[]⟩, .bool false] 80)).cell? ⟨w.heap.size, 3, none⟩ = some (.string ⟨#[47, 99]⟩) := HD3.out.cell 3
  have b4 : (w2.alloc (.cells #[.string ⟨#[104, 116, 116, 112]⟩, .string ⟨#[97, 46, 98]⟩, .string ⟨#[]⟩, .string ⟨#[47, 99]⟩, .string ⟨#[]⟩, .bool false, .string ⟨#[]⟩, .bool false] 80)).cell? ⟨w.heap.size, 4, none⟩ = some (.string ⟨#[]⟩) := HD3.out.cell 4
  have b5 : (w2.alloc (.cells #[.string ⟨#[104, 116, 116, 112]⟩, .string ⟨#[97, 46, 98]⟩, .string ⟨#[]⟩, .string ⟨#[47, 99]⟩, .string ⟨#[]⟩, .bool false, .string ⟨#[]⟩, .bool false] 80)).cell? ⟨w.heap.size, 5, none⟩ = some (.bool false) := HD3.out.cell 5
  have b6 : (w2.alloc (.cells #[.string ⟨#[104, 116, 116, 112]⟩, .string ⟨#[97, 46, 98]⟩, .string ⟨#[]⟩, .string ⟨#[47, 99]⟩, .string ⟨#[]⟩, .bool false, .string ⟨#[]⟩, .bool false] 80)).cell? ⟨w.heap.size, 6, none⟩ = some (.string ⟨#[]⟩) := HD3.out.cell 6
  have b7 : (w2.alloc (.cells #[.string ⟨#[104, 116, 116, 112]⟩, .string ⟨#[97, 46, 98]⟩, .string ⟨#[]⟩, .string ⟨#[47, 99]⟩, .string ⟨#[]⟩, .bool false, .string ⟨#[]⟩, .bool false] 80)).cell? ⟨w.heap.size, 7, none⟩ = some (.bool false) := HD3.out.cell 7
  go_wp2_with fail
  refine (key_ab _ HG3.out).mono ?_
  rintro e w4 ⟨rfl, hb⟩
  have HB4 := Lib.hid (ext_trans HB3.out hb)
  clear hb b0 b1 b2 b3 b4 b5 b6 b7
  go_wp2_with fail
  go_ret2
  exact ⟨rfl, HB4.out⟩
set_option maxRecDepth 100000 in
set_option maxHeartbeats 2000000 in
theorem lives_any (w : World) (hG : GInt w) : Calls Tryz.prog 6 #[] w fun e w' => e = .returned (.bool true) ∧ Below w.heap.size w w' := by
  have HG := Lib.hid hG
  clear hG
  go_enter Tryz.func6, Tryz.ntmps6
  go_wp2_with fail
  refine (keyTop_ab w HG.out).mono ?_
  rintro e w1 ⟨rfl, hb⟩
  have HB := Lib.hid hb
  clear hb
  go_wp2_with fail
  go_ret
  exact ⟨rfl, HB.out⟩
end Go.Proofs.YtnkdcmibafjplaaGreatDoor
