/-
  Digests: what 'mixed', 'number', 'hex', 'Digest' of both packages compute. No condition but the length of what is read.
-/
import Derived.Test.YtdljgjlkfihjdaaGreatDoorProg
import Derived.Test.YtdljgjlkfihjdaaGreatDoorBase
namespace Go.Proofs.YtdljgjlkfihjdaaGreatDoor
open Go.RowKit
set_option linter.unusedVariables false

def fnvS (n : Int) (b : UInt8) : Int := IntKind.u64.wrap (bits BinOp.xor IntKind.u64 n (IntKind.u64.wrap ↑b.toNat) * 1099511628211)
def fnv (l : List UInt8) : Int := l.foldl fnvS 14695981039346656037
theorem fnv_snoc (l : List UInt8) (k : Nat) (h : k < l.length) : fnv (l.take (k + 1)) = fnvS (fnv (l.take k)) l[k] := by
  unfold fnv
  rw [List.take_succ_eq_append_getElem h, List.foldl_append]
  rfl

theorem fnv_range : ∀ (l : List UInt8) (n : Int), 0 ≤ n → n ≤ 18446744073709551615 → 0 ≤ l.foldl fnvS n ∧ l.foldl fnvS n ≤ 18446744073709551615
  | [], n, h0, h1 => ⟨h0, h1⟩
  | b :: l, n, h0, h1 => by
    rw [List.foldl_cons]
    refine fnv_range l _ ?_ ?_
    all_goals unfold fnvS; rw [IntKind.wrap_u64]; omega
theorem fnv_lo (l : List UInt8) : 0 ≤ fnv l := (fnv_range l _ (by omega) (by omega)).1
theorem fnv_hi (l : List UInt8) : fnv l ≤ 18446744073709551615 := (fnv_range l _ (by omega) (by omega)).2

theorem ret_int {k : IntKind} {a b : Int} (h : a = b) : Ending.returned (.int k a) = .returned (.int k b) := by rw [h]

theorem u64_and15 (x : Int) (h0 : 0 ≤ x) (h1 : x ≤ 18446744073709551615) : bits .and .u64 x 15 = x % 16 := bits_mask .u64 64 (by decide) (fun n h0 h1 => IntWalk.u64_in n ⟨h0, by omega⟩) 4 (by decide) x h0 (by omega)
/-- The digit of the last four bits. -/
def hexB (m : Int) : UInt8 := [48, 49, 50, 51, 52, 53, 54, 55, 56, 57, 97, 98, 99, 100, 101, 102].getD (m % 16).toNat 0
theorem hexB_eq (m : Int) (h : (m % 16).toNat < (ByteArray.mk #[48, 49, 50, 51, 52, 53, 54, 55, 56, 57, 97, 98, 99, 100, 101, 102]).size) :
    (ByteArray.mk #[48, 49, 50, 51, 52, 53, 54, 55, 56, 57, 97, 98, 99, 100, 101, 102])[(m % 16).toNat] = hexB m := by
  show ([48, 49, 50, 51, 52, 53, 54, 55, 56, 57, 97, 98, 99, 100, 101, 102] : List UInt8)[(m % 16).toNat]'(by simpa [ByteArray.size] using h) = _
  rw [hexB, List.getD_eq_getElem?_getD, List.getElem?_eq_getElem (by simpa [ByteArray.size] using h)]
  rfl
/-- The last k of sixteen digits. -/
def hexL (n : Int) (k : Nat) : List UInt8 := (List.range k).reverse.map fun i => hexB (n / (16 ^ i : Nat))
def hexCells (n : Int) (k : Nat) : List Value := List.replicate (16 - k) (.int .u8 0) ++ (hexL n k).map fun b => .int .u8 b.toNat
theorem hexL_len (n : Int) (k : Nat) : (hexL n k).length = k := by simp [hexL]
theorem hexL_succ (n : Int) (k : Nat) : hexL n (k + 1) = hexB (n / (16 ^ k : Nat)) :: hexL n k := by simp [hexL, List.range_succ]
theorem hexCells_succ (n : Int) (k : Nat) (h : k < 16) : (hexCells n k).set (15 - k) (.int .u8 (hexB (n / (16 ^ k : Nat))).toNat) = hexCells n (k + 1) := by
  unfold hexCells
  rw [hexL_succ, List.map_cons, show 16 - k = (16 - (k + 1)) + 1 by omega, List.replicate_succ', List.append_assoc, List.set_append, if_neg (by simp)]
  simp

theorem uint8_info : (Tryz.prog.info? 5).map (fun i => (i.zero, i.size, i.bytes)) = some (some (.int .u8 0), 1, 1) := by kernel_rfl

theorem hexR (n : Int) (k : Nat) (h : k < 16) : (hexL n 16).take (15 - k) ++ [hexB (n / (16 ^ k : Nat))] = (hexL n 16).take (16 - k) := by
  rw [show 16 - k = (15 - k) + 1 by omega, List.take_succ_eq_append_getElem (by rw [hexL_len]; omega)]
  congr 2
  simp only [hexL, List.getElem_map, List.getElem_reverse, List.length_range, List.getElem_range]
  rw [show 16 - 1 - (15 - k) = k by omega]

end Go.Proofs.YtdljgjlkfihjdaaGreatDoor
