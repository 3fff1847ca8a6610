/-
  Digests: what 'mixed', 'number', 'hex', 'Digest' of both packages compute. No condition but the length of what is read.
-/
import Derived.Test.YtnkdcmibafjplaaGreatDoorProg
import Derived.Test.YtnkdcmibafjplaaGreatDoorBase
namespace Go.Proofs.YtnkdcmibafjplaaGreatDoor
open Go.RowKit
set_option linter.unusedVariables false

def fnvS (n : Int) (b : UInt8) : Int := IntKind.u64.wrap (bits BinOp.xor IntKind.u64 n (IntKind.u64.wrap ↑b.toNat) * 1099511628211)
def fnv (l : List UInt8) : Int := l.foldl fnvS 14695981039346656037
theorem fnv_snoc (l : List UInt8) (k : Nat) (h : k < l.length) : fnv (l.take (k + 1)) = fnvS (fnv (l.take k)) l[k] := by
  unfold fnv
  rw [List.take_succ_eq_append_getElem h, List.foldl_append]
  rfl

theorem fnv_range : ∀ (l : List UInt8) (n : Int), 0 ≤ n → n ≤ 18446744073709551615 → 0 ≤ l.foldl fnvS n ∧ l.foldl fnvS n ≤ 18446744073709551615
  | [], n, h0, h1 => ⟨h0, h1⟩
  | b :: l, n, h0, h1 => by
    rw [List.foldl_cons]
    refine fnv_range l _ ?_ ?_
    all_goals unfold fnvS; rw [IntKind.wrap_u64]; omega
theorem fnv_lo (l : List UInt8) : 0 ≤ fnv l := (fnv_range l _ (by omega) (by omega)).1
theorem fnv_hi (l : List UInt8) : fnv l ≤ 18446744073709551615 := (fnv_range l _ (by omega) (by omega)).2

theorem ret_int {k : IntKind} {a b : Int} (h : a = b) : Ending.returned (.int k a) = .returned (.int k b) := by rw [h]

set_option maxHeartbeats 400000 in
theorem mixed_any (v : Value) (bs : List UInt8) (w : World) (S : Nat → Prop) (h : (Rp.sl Rp.u8).ok w S [v] bs) :
    Calls Tryz.prog 30 #[v] w fun e w' => e = .returned (.int .u64 (fnv bs)) ∧ w = w' := by
  obtain ⟨A, c, rfl, hl, hc, _⟩ := Rp.sl_open h
  unfold maxLen at hc
  go_enter Tryz.func30, Tryz.ntmps30
  go_wp2
  go_loop [3, 7] (fun n i => ∃ k : Nat, k ≤ bs.length ∧ i = .int .i64 k ∧ n = .int .u64 (fnv (bs.take k))) (fun _ i => bs.length - (intOf i).toNat)
  case atStart => exact ⟨0, Nat.zero_le _, rfl, rfl⟩
  case round =>
    obtain ⟨k, hk, rfl, rfl⟩ := hrel
    by_cases hlt : k < bs.length
    · obtain ⟨ad, u, rfl, _, hu, hcell⟩ := Rp.sl_at1 rfl h hlt
      cases hu
      clear h
      go_wp2
      go_round
      case rel => exact ⟨k + 1, by omega, by go_num, by rw [fnv_snoc bs k hlt]; rfl⟩
      case measure => simp [intOf]; omega
    · clear h
      go_wp2
      go_ret
      exact ⟨ret_int (by rw [List.take_of_length_le (by omega)]), rfl⟩

theorem u64_and15 (x : Int) (h0 : 0 ≤ x) (h1 : x ≤ 18446744073709551615) : bits .and .u64 x 15 = x % 16 := bits_mask .u64 64 (by decide) (fun n h0 h1 => IntWalk.u64_in n ⟨h0, by omega⟩) 4 (by decide) x h0 (by omega)
/-- The digit of the last four bits. -/
def hexB (m : Int) : UInt8 := [48, 49, 50, 51, 52, 53, 54, 55, 56, 57, 97, 98, 99, 100, 101, 102].getD (m % 16).toNat 0
theorem hexB_eq (m : Int) (h : (m % 16).toNat < (ByteArray.mk #[48, 49, 50, 51, 52, 53, 54, 55, 56, 57, 97, 98, 99, 100, 101, 102]).size) :
    (ByteArray.mk #[48, 49, 50, 51, 52, 53, 54, 55, 56, 57, 97, 98, 99, 100, 101, 102])[(m % 16).toNat] = hexB m := by
  show ([48, 49, 50, 51, 52, 53, 54, 55, 56, 57, 97, 98, 99, 100, 101, 102] : List UInt8)[(m % 16).toNat]'(by simpa [ByteArray.size] using h) = _
  rw [hexB, List.getD_eq_getElem?_getD, List.getElem?_eq_getElem (by simpa [ByteArray.size] using h)]
  rfl
/-- The last k of sixteen digits. -/
def hexL (n : Int) (k : Nat) : List UInt8 := (List.range k).reverse.map fun i => hexB (n / (16 ^ i : Nat))
def hexCells (n : Int) (k : Nat) : List Value := List.replicate (16 - k) (.int .u8 0) ++ (hexL n k).map fun b => .int .u8 b.toNat
theorem hexL_len (n : Int) (k : Nat) : (hexL n k).length = k := by simp [hexL]
theorem hexL_succ (n : Int) (k : Nat) : hexL n (k + 1) = hexB (n / (16 ^ k : Nat)) :: hexL n k := by simp [hexL, List.range_succ]
theorem hexCells_succ (n : Int) (k : Nat) (h : k < 16) : (hexCells n k).set (15 - k) (.int .u8 (hexB (n / (16 ^ k : Nat))).toNat) = hexCells n (k + 1) := by
  unfold hexCells
  rw [hexL_succ, List.map_cons, show 16 - k = (16 - (k + 1)) + 1 by omega, List.replicate_succ', List.append_assoc, List.set_append, if_neg (by simp)]
  simp

set_option maxRecDepth 100000 in
set_option maxHeartbeats 400000 in
theorem hex_any (n : Int) (w : World) (hn : 0 ≤ n) (hn1 : n ≤ 18446744073709551615) :
    Calls Tryz.prog 29 #[.int .u64 n] w fun e w' => e = .returned (.string (bstr (hexL n 16))) ∧ Below w.heap.size w w' := by
  have hmk : ∀ w, (Instr.makeSlice 33 (.int .i64 16) (.int .i64 16)).run Tryz.prog w = .ok (.slice (some ⟨w.heap.size, 0, none⟩) 16 16) (w.alloc (.cells (List.replicate 16 (.int .u8 0)).toArray 5)) := fun _ => by kernel_rfl
  go_enter Tryz.func29, Tryz.ntmps29
  go_wp2
  go_loopw [0, 8] (fun m i w' => ∃ k : Nat, k ≤ 16 ∧ i = .int .i64 k ∧ m = .int .u64 (n / (16 ^ k : Nat)) ∧ Blk w' w.heap.size 5 (hexCells n k) ∧ Below w.heap.size w w') (fun _ i _ => 16 - (intOf i).toNat)
  case atStart => exact ⟨0, by omega, rfl, by simp, Blk.new w _ _, (Below.refl _ _).alloc (Nat.le_refl _) _⟩
  case round =>
    obtain ⟨k, hk, rfl, rfl, hblk, hbel⟩ := hrel
    by_cases hlt : k < 16
    · have hf := hblk.frozen (15 - k)
      obtain ⟨u, hc⟩ : ∃ u, wr.cell? ⟨w.heap.size, 15 - k, none⟩ = some u := by
        rw [hblk.cell]
        exact ⟨_, List.getElem?_eq_getElem (by simp [hexCells, hexL_len]; omega)⟩
      have HB := Lib.hid hblk
      have HD := Lib.hid hbel
      have h0 : 0 ≤ n / (16 ^ k : Nat) := Int.ediv_nonneg hn (Int.natCast_nonneg _)
      have h1 : n / (16 ^ k : Nat) ≤ 18446744073709551615 := Int.le_trans (Int.ediv_le_self _ hn) hn1
      obtain ⟨m, hm⟩ : ∃ m, m = n / (16 ^ k : Nat) := ⟨_, rfl⟩
      rw [← hm] at h0 h1 ⊢
      have hb := u64_and15 m h0 h1
      clear h1
      clear hn1
      have HM := Lib.hid hm
      clear hblk hbel hm
      go_wp2
      go_roundw
      case rel =>
        refine ⟨k + 1, by omega, by go_num, ?_, ?_, HD.out.setCell (Nat.le_refl _) _⟩
        · rw [HM.out, Int.ediv_ediv_of_nonneg (Int.natCast_nonneg _), Nat.pow_succ]; rfl
        · rw [hexB_eq, HM.out, ← hexCells_succ n k hlt]; exact HB.out.set_ _ _
      case measure => simp [intOf]; omega
    · have hk16 : k = 16 := by omega
      subst hk16
      have hrp : (Rp.sl Rp.u8).ok wr (fun _ => True) [.slice (some ⟨w.heap.size, 0, none⟩) 16 16] (hexL n 16) := by
        refine ⟨_, 16, by rw [hexL_len], by rw [hexL_len]; omega, by unfold maxLen; omega, by simp, fun j hj => ⟨_, _, rfl, trivial, rfl, fun i u hu => ?_⟩⟩
        have hi : i = 0 := by
          match i, hu with
          | 0, _ => rfl
        subst hi
        have hadd : (⟨w.heap.size, 0, none⟩ : Addr).add (j * Rp.u8.sz + 0) = ⟨w.heap.size, j, none⟩ := by unfold Addr.add; simp only [Rp.u8, Nat.mul_one, Nat.add_zero]; split <;> simp_all
        rw [hadd, hblk.cell, ← hu]
        simp [hexCells, hj]
      have hcv := conv_bytes (P := Tryz.prog) 33 5 9 Tryz.underlying33 Tryz.underlying5 Tryz.underlying9 hrp
      clear hrp hblk
      go_wp2
      go_ret
      exact ⟨rfl, hbel⟩
set_option maxHeartbeats 400000 in
theorem digest_any (v : Value) (bs : List UInt8) (w : World) (S : Nat → Prop) (h : (Rp.sl Rp.u8).ok w S [v] bs) :
    Calls Tryz.prog 11 #[v] w fun e w' => e = .returned (.string (bstr (hexL (fnv bs) 16))) ∧ Below w.heap.size w w' := by
  have b0 := fnv_lo bs
  have b1 := fnv_hi bs
  have H := Lib.hid h
  obtain ⟨A, c, rfl, hl, hc, _⟩ := Rp.sl_open h
  clear h
  go_enter Tryz.func11, Tryz.ntmps11
  go_wp2_with fail
  refine (mixed_any _ bs w S H.out).mono ?_
  rintro e w' ⟨rfl, rfl⟩
  go_wp2_with fail
  refine (hex_any (fnv bs) w b0 b1).mono ?_
  rintro e w' ⟨rfl, hb⟩
  go_wp2
  go_ret
  exact ⟨rfl, hb⟩

theorem uint8_info : (Tryz.prog.info? 5).map (fun i => (i.zero, i.size, i.bytes)) = some (some (.int .u8 0), 1, 1) := by kernel_rfl

theorem hexR (n : Int) (k : Nat) (h : k < 16) : (hexL n 16).take (15 - k) ++ [hexB (n / (16 ^ k : Nat))] = (hexL n 16).take (16 - k) := by
  rw [show 16 - k = (15 - k) + 1 by omega, List.take_succ_eq_append_getElem (by rw [hexL_len]; omega)]
  congr 2
  simp only [hexL, List.getElem_map, List.getElem_reverse, List.length_range, List.getElem_range]
  rw [show 16 - 1 - (15 - k) = k by omega]

end Go.Proofs.YtnkdcmibafjplaaGreatDoor
