/-
  'strings.Trim' at a set of ASCII bytes: the library's contract at this program; what it leaves of a string of such bytes.
  Digests: what 'mixed', 'number', 'hex', 'Digest' of both packages compute. No condition but the length of what is read.
  Rows of bytes from 33 to 126, digests: 'isRow', 'isNonce', 'isDigest', 'digest' of both packages.
-/
import Derived.Test.YtnkdcmibafjplaaGreatDoorProg
import Derived.Test.YtnkdcmibafjplaaGreatDoorBase
import Derived.Shelf.Strings.SlTrimAscii
import Derived.Test.YtnkdcmibafjplaaGreatDoorStr
namespace Go.Proofs.YtnkdcmibafjplaaGreatDoor
open Go.RowKit
set_option linter.unusedVariables false
set_option linter.unusedSimpArgs false

theorem dropWhile_all {α : Type} {p : α → Bool} : ∀ {l : List α}, l.dropWhile p = [] ↔ l.all p = true
  | [] => by simp
  | x :: l => by
    rw [List.dropWhile_cons, List.all_cons]
    by_cases h : p x = true
    · rw [if_pos h, h, Bool.true_and]; exact dropWhile_all
    · rw [if_neg h]; simp [h]
theorem dropWhile_some {α : Type} {p : α → Bool} : ∀ {l : List α}, l.all p = false → ∃ x r, l.dropWhile p = x :: r ∧ p x = false
  | [], h => by simp at h
  | x :: l, h => by
    rw [List.dropWhile_cons]
    by_cases hx : p x = true
    · rw [if_pos hx]; rw [List.all_cons, hx, Bool.true_and] at h; exact dropWhile_some h
    · rw [if_neg hx]; exact ⟨x, l, rfl, Bool.eq_false_iff.2 hx⟩
theorem trim_nil (l cs : List UInt8) : (Lib.trimS l cs = []) = (l.all (cs.contains ·) = true) := by
  apply propext
  unfold Lib.trimS Lib.trimLeftS Lib.trimRightS
  rw [dropWhile_all]
  constructor
  · intro h
    by_cases ha : l.reverse.all (cs.contains ·) = true
    · rw [List.all_eq_true] at ha ⊢
      exact fun x hx => ha x (List.mem_reverse.2 hx)
    · obtain ⟨x, r, e, hx⟩ := dropWhile_some (Bool.eq_false_iff.2 ha)
      rw [e, List.all_eq_true] at h
      have := h x (by simp)
      rw [hx] at this; cases this
  · intro h
    have ha : l.reverse.all (cs.contains ·) = true := by
      rw [List.all_eq_true] at h ⊢
      exact fun x hx => h x (List.mem_reverse.1 hx)
    rw [dropWhile_all.2 ha]; rfl
theorem trim_empty (t cs : List UInt8) : ((bstr (Lib.trimS t cs)).toList == []) = t.all (cs.contains ·) := by
  rw [bstr_toList]
  have := trim_nil t cs
  cases h : t.all (cs.contains ·)
  · rw [h] at this
    rw [beq_eq_false_iff_ne]
    intro e
    rw [e] at this
    simp at this
  · rw [h] at this
    rw [beq_iff_eq, this]
theorem trim_isEmpty (t cs : List UInt8) : (bstr (Lib.trimS t cs)).toList.isEmpty = t.all (cs.contains ·) := by
  rw [← trim_empty]
  cases (bstr (Lib.trimS t cs)).toList <;> rfl
def trimLays_ren : Go.Shelf.Ren := ⟨fun | 119 => 193 | 120 => 187 | 137 => 171 | 151 => 156 | 152 => 173 | 160 => 66 | 197 => 155 | 217 => 192 | 224 => 194 | 225 => 195 | 227 => 105 | 228 => 154 | 231 => 103 | 232 => 104 | 233 => 106 | 234 => 107 | 235 => 108 | 236 => 109 | 260 => 186 | 266 => 211 | 271 => 157 | n => n, fun | 0 => 0 | 3 => 3 | 4 => 4 | 5 => 5 | 9 => 9 | 21 => 21 | 46 => 154 | 105 => 221 | 116 => 186 | 117 => 187 | 119 => 259 | 124 => 190 | 138 => 261 | 139 => 262 | n => n, fun | 3 => 1 | 4 => 2 | n => n⟩
theorem trimLays : Lays.n160 Tryz.prog trimLays_ren := {
  mixed := by kernel_rfl,
  f119 := Tryz.func193.trans (congrArg some (by kernel_rfl)),
  f120 := Tryz.func187.trans (congrArg some (by kernel_rfl)),
  f137 := Tryz.func171.trans (congrArg some (by kernel_rfl)),
  f151 := Tryz.func156.trans (congrArg some (by kernel_rfl)),
  f152 := Tryz.func173.trans (congrArg some (by kernel_rfl)),
  f160 := Tryz.func66.trans (congrArg some (by kernel_rfl)),
  f197 := Tryz.func155.trans (congrArg some (by kernel_rfl)),
  f217 := Tryz.func192.trans (congrArg some (by kernel_rfl)),
  f224 := Tryz.func194.trans (congrArg some (by kernel_rfl)),
  f225 := Tryz.func195.trans (congrArg some (by kernel_rfl)),
  f227 := Tryz.func105.trans (congrArg some (by kernel_rfl)),
  f228 := Tryz.func154.trans (congrArg some (by kernel_rfl)),
  f231 := Tryz.func103.trans (congrArg some (by kernel_rfl)),
  f232 := Tryz.func104.trans (congrArg some (by kernel_rfl)),
  f233 := Tryz.func106.trans (congrArg some (by kernel_rfl)),
  f234 := Tryz.func107.trans (congrArg some (by kernel_rfl)),
  f235 := Tryz.func108.trans (congrArg some (by kernel_rfl)),
  f236 := Tryz.func109.trans (congrArg some (by kernel_rfl)),
  f260 := Tryz.func186.trans (congrArg some (by kernel_rfl)),
  f266 := Tryz.func211.trans (congrArg some (by kernel_rfl)),
  f271 := Tryz.func157.trans (congrArg some (by kernel_rfl)),
  t0 := Tryz.underlying0,
  a0 := Tryz.isAgg0,
  z0 := Tryz.sizeOf0,
  v0 := Tryz.zeroValue0,
  t3 := Tryz.underlying3,
  a3 := Tryz.isAgg3,
  z3 := Tryz.sizeOf3,
  v3 := Tryz.zeroValue3,
  t4 := Tryz.underlying4,
  a4 := Tryz.isAgg4,
  z4 := Tryz.sizeOf4,
  v4 := Tryz.zeroValue4,
  t5 := Tryz.underlying5,
  a5 := Tryz.isAgg5,
  z5 := Tryz.sizeOf5,
  v5 := Tryz.zeroValue5,
  t9 := Tryz.underlying9,
  a9 := Tryz.isAgg9,
  z9 := Tryz.sizeOf9,
  v9 := Tryz.zeroValue9,
  t21 := Tryz.underlying21,
  a21 := Tryz.isAgg21,
  z21 := Tryz.sizeOf21,
  v21 := Tryz.zeroValue21,
  t46 := Tryz.underlying154,
  a46 := Tryz.isAgg154,
  z46 := Tryz.sizeOf154,
  v46 := Tryz.zeroValue154,
  t105 := Tryz.underlying221,
  a105 := Tryz.isAgg221,
  z105 := Tryz.sizeOf221,
  v105 := Tryz.zeroValue221,
  t116 := Tryz.underlying186,
  a116 := Tryz.isAgg186,
  z116 := Tryz.sizeOf186,
  t117 := Tryz.underlying187,
  a117 := Tryz.isAgg187,
  z117 := Tryz.sizeOf187,
  v117 := Tryz.zeroValue187,
  t119 := Tryz.underlying259,
  a119 := Tryz.isAgg259,
  z119 := Tryz.sizeOf259,
  t124 := Tryz.underlying190,
  a124 := Tryz.isAgg190,
  z124 := Tryz.sizeOf190,
  v124 := Tryz.zeroValue190,
  t138 := Tryz.underlying261,
  a138 := Tryz.isAgg261,
  z138 := Tryz.sizeOf261,
  v138 := Tryz.zeroValue261,
  t139 := Tryz.underlying262,
  a139 := Tryz.isAgg262,
  z139 := Tryz.sizeOf262,
  v139 := Tryz.zeroValue262,
  g3 := by kernel_rfl,
  g4 := by kernel_rfl }
theorem trim_any (t cs : List UInt8) (w : World) (ht : t.length ≤ 9223372036854775807) (hcs : cs.length < 4294967281) (ha : cs.all (fun b => decide (b.toNat < 128)) = true) :
    Calls Tryz.prog 66 #[.string (bstr t), .string (bstr cs)] w fun e w' => e = .returned (.string (bstr (Lib.trimS t cs))) ∧ Below w.heap.size w w' :=
  Any.strings_Trim_laid trimLays (by kernel_rfl) (bstr t) (bstr cs) w ht hcs (ascii_of_all ha)
end Go.Proofs.YtnkdcmibafjplaaGreatDoor
namespace Go.Proofs.YtnkdcmibafjplaaGreatDoor
open Go.RowKit
set_option linter.unusedVariables false

def fnvS (n : Int) (b : UInt8) : Int := IntKind.u64.wrap (bits BinOp.xor IntKind.u64 n (IntKind.u64.wrap ↑b.toNat) * 1099511628211)
def fnv (l : List UInt8) : Int := l.foldl fnvS 14695981039346656037
theorem fnv_snoc (l : List UInt8) (k : Nat) (h : k < l.length) : fnv (l.take (k + 1)) = fnvS (fnv (l.take k)) l[k] := by
  unfold fnv
  rw [List.take_succ_eq_append_getElem h, List.foldl_append]
  rfl

theorem fnv_range : ∀ (l : List UInt8) (n : Int), 0 ≤ n → n ≤ 18446744073709551615 → 0 ≤ l.foldl fnvS n ∧ l.foldl fnvS n ≤ 18446744073709551615
  | [], n, h0, h1 => ⟨h0, h1⟩
  | b :: l, n, h0, h1 => by
    rw [List.foldl_cons]
    refine fnv_range l _ ?_ ?_
    all_goals unfold fnvS; rw [IntKind.wrap_u64]; omega
theorem fnv_lo (l : List UInt8) : 0 ≤ fnv l := (fnv_range l _ (by omega) (by omega)).1
theorem fnv_hi (l : List UInt8) : fnv l ≤ 18446744073709551615 := (fnv_range l _ (by omega) (by omega)).2

theorem ret_int {k : IntKind} {a b : Int} (h : a = b) : Ending.returned (.int k a) = .returned (.int k b) := by rw [h]

set_option maxHeartbeats 400000 in
theorem mixed_any (v : Value) (bs : List UInt8) (w : World) (S : Nat → Prop) (h : (Rp.sl Rp.u8).ok w S [v] bs) :
    Calls Tryz.prog 30 #[v] w fun e w' => e = .returned (.int .u64 (fnv bs)) ∧ w = w' := by
  obtain ⟨A, c, rfl, hl, hc, _⟩ := Rp.sl_open h
  unfold maxLen at hc
  go_enter Tryz.func30, Tryz.ntmps30
  go_wp2
  go_loop [3, 7] (fun n i => ∃ k : Nat, k ≤ bs.length ∧ i = .int .i64 k ∧ n = .int .u64 (fnv (bs.take k))) (fun _ i => bs.length - (intOf i).toNat)
  case atStart => exact ⟨0, Nat.zero_le _, rfl, rfl⟩
  case round =>
    obtain ⟨k, hk, rfl, rfl⟩ := hrel
    by_cases hlt : k < bs.length
    · obtain ⟨ad, u, rfl, _, hu, hcell⟩ := Rp.sl_at1 rfl h hlt
      cases hu
      clear h
      go_wp2
      go_round
      case rel => exact ⟨k + 1, by omega, by go_num, by rw [fnv_snoc bs k hlt]; rfl⟩
      case measure => simp [intOf]; omega
    · clear h
      go_wp2
      go_ret
      exact ⟨ret_int (by rw [List.take_of_length_le (by omega)]), rfl⟩

theorem u64_and15 (x : Int) (h0 : 0 ≤ x) (h1 : x ≤ 18446744073709551615) : bits .and .u64 x 15 = x % 16 := bits_mask .u64 64 (by decide) (fun n h0 h1 => IntWalk.u64_in n ⟨h0, by omega⟩) 4 (by decide) x h0 (by omega)
/-- The digit of the last four bits. -/
def hexB (m : Int) : UInt8 := [48, 49, 50, 51, 52, 53, 54, 55, 56, 57, 97, 98, 99, 100, 101, 102].getD (m % 16).toNat 0
theorem hexB_eq (m : Int) (h : (m % 16).toNat < (ByteArray.mk #[48, 49, 50, 51, 52, 53, 54, 55, 56, 57, 97, 98, 99, 100, 101, 102]).size) :
    (ByteArray.mk #[48, 49, 50, 51, 52, 53, 54, 55, 56, 57, 97, 98, 99, 100, 101, 102])[(m % 16).toNat] = hexB m := by
  show ([48, 49, 50, 51, 52, 53, 54, 55, 56, 57, 97, 98, 99, 100, 101, 102] : List UInt8)[(m % 16).toNat]'(by simpa [ByteArray.size] using h) = _
  rw [hexB, List.getD_eq_getElem?_getD, List.getElem?_eq_getElem (by simpa [ByteArray.size] using h)]
  rfl
/-- The last k of sixteen digits. -/
def hexL (n : Int) (k : Nat) : List UInt8 := (List.range k).reverse.map fun i => hexB (n / (16 ^ i : Nat))
def hexCells (n : Int) (k : Nat) : List Value := List.replicate (16 - k) (.int .u8 0) ++ (hexL n k).map fun b => .int .u8 b.toNat
theorem hexL_len (n : Int) (k : Nat) : (hexL n k).length = k := by simp [hexL]
theorem hexL_succ (n : Int) (k : Nat) : hexL n (k + 1) = hexB (n / (16 ^ k : Nat)) :: hexL n k := by simp [hexL, List.range_succ]
theorem hexCells_succ (n : Int) (k : Nat) (h : k < 16) : (hexCells n k).set (15 - k) (.int .u8 (hexB (n / (16 ^ k : Nat))).toNat) = hexCells n (k + 1) := by
  unfold hexCells
  rw [hexL_succ, List.map_cons, show 16 - k = (16 - (k + 1)) + 1 by omega, List.replicate_succ', List.append_assoc, List.set_append, if_neg (by simp)]
  simp

set_option maxRecDepth 100000 in
set_option maxHeartbeats 400000 in
theorem hex_any (n : Int) (w : World) (hn : 0 ≤ n) (hn1 : n ≤ 18446744073709551615) :
    Calls Tryz.prog 29 #[.int .u64 n] w fun e w' => e = .returned (.string (bstr (hexL n 16))) ∧ Below w.heap.size w w' := by
  have hmk : ∀ w, (Instr.makeSlice 33 (.int .i64 16) (.int .i64 16)).run Tryz.prog w = .ok (.slice (some ⟨w.heap.size, 0, none⟩) 16 16) (w.alloc (.cells (List.replicate 16 (.int .u8 0)).toArray 5)) := fun _ => by kernel_rfl
  go_enter Tryz.func29, Tryz.ntmps29
  go_wp2
  go_loopw [0, 8] (fun m i w' => ∃ k : Nat, k ≤ 16 ∧ i = .int .i64 k ∧ m = .int .u64 (n / (16 ^ k : Nat)) ∧ Blk w' w.heap.size 5 (hexCells n k) ∧ Below w.heap.size w w') (fun _ i _ => 16 - (intOf i).toNat)
  case atStart => exact ⟨0, by omega, rfl, by simp, Blk.new w _ _, (Below.refl _ _).alloc (Nat.le_refl _) _⟩
  case round =>
    obtain ⟨k, hk, rfl, rfl, hblk, hbel⟩ := hrel
    by_cases hlt : k < 16
    · have hf := hblk.frozen (15 - k)
      obtain ⟨u, hc⟩ : ∃ u, wr.cell? ⟨w.heap.size, 15 - k, none⟩ = some u := by
        rw [hblk.cell]
        exact ⟨_, List.getElem?_eq_getElem (by simp [hexCells, hexL_len]; omega)⟩
      have HB := Lib.hid hblk
      have HD := Lib.hid hbel
      have h0 : 0 ≤ n / (16 ^ k : Nat) := Int.ediv_nonneg hn (Int.natCast_nonneg _)
      have h1 : n / (16 ^ k : Nat) ≤ 18446744073709551615 := Int.le_trans (Int.ediv_le_self _ hn) hn1
      obtain ⟨m, hm⟩ : ∃ m, m = n / (16 ^ k : Nat) := ⟨_, rfl⟩
      rw [← hm] at h0 h1 ⊢
      have hb := u64_and15 m h0 h1
      clear h1
      clear hn1
      have HM := Lib.hid hm
      clear hblk hbel hm
      go_wp2
      go_roundw
      case rel =>
        refine ⟨k + 1, by omega, by go_num, ?_, ?_, HD.out.setCell (Nat.le_refl _) _⟩
        · rw [HM.out, Int.ediv_ediv_of_nonneg (Int.natCast_nonneg _), Nat.pow_succ]; rfl
        · rw [hexB_eq, HM.out, ← hexCells_succ n k hlt]; exact HB.out.set_ _ _
      case measure => simp [intOf]; omega
    · have hk16 : k = 16 := by omega
      subst hk16
      have hrp : (Rp.sl Rp.u8).ok wr (fun _ => True) [.slice (some ⟨w.heap.size, 0, none⟩) 16 16] (hexL n 16) := by
        refine ⟨_, 16, by rw [hexL_len], by rw [hexL_len]; omega, by unfold maxLen; omega, by simp, fun j hj => ⟨_, _, rfl, trivial, rfl, fun i u hu => ?_⟩⟩
        have hi : i = 0 := by
          match i, hu with
          | 0, _ => rfl
        subst hi
        have hadd : (⟨w.heap.size, 0, none⟩ : Addr).add (j * Rp.u8.sz + 0) = ⟨w.heap.size, j, none⟩ := by unfold Addr.add; simp only [Rp.u8, Nat.mul_one, Nat.add_zero]; split <;> simp_all
        rw [hadd, hblk.cell, ← hu]
        simp [hexCells, hj]
      have hcv := conv_bytes (P := Tryz.prog) 33 5 9 Tryz.underlying33 Tryz.underlying5 Tryz.underlying9 hrp
      clear hrp hblk
      go_wp2
      go_ret
      exact ⟨rfl, hbel⟩
set_option maxHeartbeats 400000 in
theorem digest_any (v : Value) (bs : List UInt8) (w : World) (S : Nat → Prop) (h : (Rp.sl Rp.u8).ok w S [v] bs) :
    Calls Tryz.prog 11 #[v] w fun e w' => e = .returned (.string (bstr (hexL (fnv bs) 16))) ∧ Below w.heap.size w w' := by
  have b0 := fnv_lo bs
  have b1 := fnv_hi bs
  have H := Lib.hid h
  obtain ⟨A, c, rfl, hl, hc, _⟩ := Rp.sl_open h
  clear h
  go_enter Tryz.func11, Tryz.ntmps11
  go_wp2_with fail
  refine (mixed_any _ bs w S H.out).mono ?_
  rintro e w' ⟨rfl, rfl⟩
  go_wp2_with fail
  refine (hex_any (fnv bs) w b0 b1).mono ?_
  rintro e w' ⟨rfl, hb⟩
  go_wp2
  go_ret
  exact ⟨rfl, hb⟩

theorem uint8_info : (Tryz.prog.info? 5).map (fun i => (i.zero, i.size, i.bytes)) = some (some (.int .u8 0), 1, 1) := by kernel_rfl

theorem hexR (n : Int) (k : Nat) (h : k < 16) : (hexL n 16).take (15 - k) ++ [hexB (n / (16 ^ k : Nat))] = (hexL n 16).take (16 - k) := by
  rw [show 16 - k = (15 - k) + 1 by omega, List.take_succ_eq_append_getElem (by rw [hexL_len]; omega)]
  congr 2
  simp only [hexL, List.getElem_map, List.getElem_reverse, List.length_range, List.getElem_range]
  rw [show 16 - 1 - (15 - k) = k by omega]

end Go.Proofs.YtnkdcmibafjplaaGreatDoor
namespace Go.Proofs.YtnkdcmibafjplaaGreatDoor
open Go.RowKit
set_option linter.unusedVariables false
set_option linter.unusedSimpArgs false

def rowByte (b : UInt8) : Bool := decide (33 ≤ b.toNat) && decide (b.toNat ≤ 126)
def isRowB (t : List UInt8) (m : Int) : Bool := t.all rowByte && (decide (1 ≤ t.length) && decide ((t.length : Int) ≤ m))
theorem rowByte_no {b : UInt8} (h : b.toNat < 33 ∨ 126 < b.toNat) : rowByte b = false := by
  unfold rowByte
  rcases h with h | h
  · rw [decide_eq_false (by omega)]; rfl
  · rw [decide_eq_false (p := b.toNat ≤ 126) (by omega), Bool.and_false]
theorem rowByte_yes {b : UInt8} (h1 : ¬ b.toNat < 33) (h2 : ¬ 126 < b.toNat) : rowByte b = true := by
  unfold rowByte
  rw [decide_eq_true (by omega), decide_eq_true (by omega)]; rfl
theorem all_no {t : List UInt8} {p : UInt8 → Bool} {k : Nat} (hk : k < t.length) (h : p t[k] = false) : t.all p = false := by
  rw [List.all_eq_false]; exact ⟨_, List.getElem_mem hk, by rw [h]; decide⟩
theorem all_yes {t : List UInt8} {p : UInt8 → Bool} {k : Nat} (h : (t.take k).all p = true) (hk : k < t.length) (hb : p t[k] = true) : (t.take (k + 1)).all p = true := by
  rw [List.take_succ_eq_append_getElem hk, List.all_append, h]; simpa using hb
def hexSet : List UInt8 := [48, 49, 50, 51, 52, 53, 54, 55, 56, 57, 97, 98, 99, 100, 101, 102]
def isDig (t : List UInt8) : Bool := decide (t.length = 16) && t.all (hexSet.contains ·)
theorem isDig_len {t : List UInt8} (h : isDig t = true) : t.length = 16 := by
  unfold isDig at h
  rw [Bool.and_eq_true, decide_eq_true_eq] at h; exact h.1
theorem isRowB_len {t : List UInt8} {m : Int} (h : isRowB t m = true) : 1 ≤ t.length ∧ (t.length : Int) ≤ m := by
  unfold isRowB at h
  rw [Bool.and_eq_true, Bool.and_eq_true, decide_eq_true_eq, decide_eq_true_eq] at h; exact h.2
/-- The digest of bytes, in bytes. -/
def digL (t : List UInt8) : List UInt8 := hexL (fnv t) 16
theorem digL_len (t : List UInt8) : (digL t).length = 16 := hexL_len _ _
set_option maxRecDepth 100000 in
set_option maxHeartbeats 400000 in
theorem isRow_any (t : List UInt8) (m : Int) (w : World) (ht : t.length ≤ 9223372036854775807) :
    Calls Tryz.prog 110 #[.string (bstr t), .int .i64 m] w fun e w' => e = .returned (.bool (isRowB t m)) ∧ w = w' := by
  have hsz : (bstr t).size = t.length := rfl
  go_enter Tryz.func110, Tryz.ntmps110
  go_wp2
  go_loop [8] (fun i => ∃ k : Nat, k ≤ t.length ∧ i = .int .i64 k ∧ Hid ((t.take k).all rowByte = true)) (fun i => t.length - (intOf i).toNat)
  case atStart => exact ⟨0, by omega, rfl, rfl⟩
  case round =>
    obtain ⟨k, hk, rfl, HT⟩ := hrel
    by_cases hlt : k < t.length
    · have hg : (bstr t)[k]'(by rw [hsz]; exact hlt) = t[k] := rfl
      by_cases h1 : t[k].toNat < 33
      · have HF : Hid (isRowB t m = false) := Lib.hid (by rw [isRowB, all_no hlt (rowByte_no (.inl h1))]; rfl)
        have hb : (((bstr t)[k]'(by rw [hsz]; exact hlt)).toNat : Int) < 33 := by rw [hg]; omega
        clear hg h1
        go_wp2
        go_ret
        exact ⟨by rw [HF.out]; rfl, rfl⟩
      have hb : ¬ (((bstr t)[k]'(by rw [hsz]; exact hlt)).toNat : Int) < 33 := by rw [hg]; omega
      by_cases h2 : 126 < t[k].toNat
      · have HF : Hid (isRowB t m = false) := Lib.hid (by rw [isRowB, all_no hlt (rowByte_no (.inr h2))]; rfl)
        have hb2 : (126 : Int) < (((bstr t)[k]'(by rw [hsz]; exact hlt)).toNat : Int) := by rw [hg]; omega
        clear hg h1 h2
        go_wp2
        go_ret
        exact ⟨by rw [HF.out]; rfl, rfl⟩
      · have hb2 : ¬ (126 : Int) < (((bstr t)[k]'(by rw [hsz]; exact hlt)).toNat : Int) := by rw [hg]; omega
        have HT2 := Lib.hid (all_yes HT.out hlt (rowByte_yes h1 h2))
        clear hg h1 h2
        go_wp2
        go_round
        case rel => exact ⟨k + 1, by omega, by go_num, HT2⟩
        case measure => simp [intOf]; omega
    · obtain rfl : k = t.length := by omega
      rw [List.take_length] at HT
      by_cases h1 : 1 ≤ t.length
      · have h1' : (1 : Int) ≤ (t.length : Int) := by omega
        by_cases h2 : (t.length : Int) ≤ m
        · have HF : Hid (isRowB t m = true) := Lib.hid (by rw [isRowB, HT.out, decide_eq_true h1, decide_eq_true h2]; rfl)
          go_wp2
          go_ret
          exact ⟨by rw [HF.out]; rfl, rfl⟩
        · have HF : Hid (isRowB t m = false) := Lib.hid (by rw [isRowB, decide_eq_false h2, Bool.and_false, Bool.and_false])
          go_wp2
          go_ret
          exact ⟨by rw [HF.out]; rfl, rfl⟩
      · have h1' : ¬ (1 : Int) ≤ (t.length : Int) := by omega
        have HF : Hid (isRowB t m = false) := Lib.hid (by rw [isRowB, decide_eq_false h1, Bool.false_and, Bool.and_false])
        go_wp2
        go_ret
        exact ⟨by rw [HF.out]; rfl, rfl⟩
set_option maxRecDepth 100000 in
set_option maxHeartbeats 400000 in
theorem isDigest_any (t : List UInt8) (w : World) (ht : t.length ≤ 9223372036854775807) :
    Calls Tryz.prog 69 #[.string (bstr t)] w fun e w' => e = .returned (.bool (isDig t)) ∧ Below w.heap.size w w' := by
  have hsz : (bstr t).size = t.length := rfl
  by_cases h16 : t.length = 16
  · have hb : ((t.length : Int) == 16) = true := by simp [h16]
    have HF : Hid (isDig t = t.all (hexSet.contains ·)) := Lib.hid (by rw [isDig, decide_eq_true h16, Bool.true_and])
    have hc := trim_any t hexSet w ht (by decide) (by decide)
    have HE := Lib.hid (trim_isEmpty t hexSet)
    clear h16
    go_enter Tryz.func69, Tryz.ntmps69
    go_wp2_with fail
    refine hc.mono ?_
    rintro e w1 ⟨rfl, hbl⟩
    have HB := Lib.hid hbl
    clear hbl hc
    generalize Lib.trimS t hexSet = r at *
    go_wp2_with fail
    go_ret
    exact ⟨by rw [HF.out, ← HE.out]; rfl, HB.out⟩
  · have hb : ((t.length : Int) == 16) = false := by rw [beq_eq_false_iff_ne]; omega
    have HF : Hid (isDig t = false) := Lib.hid (by rw [isDig, decide_eq_false h16, Bool.false_and])
    clear h16
    go_enter Tryz.func69, Tryz.ntmps69
    go_wp2_with fail
    go_ret
    exact ⟨by rw [HF.out]; rfl, Below.refl _ _⟩
end Go.Proofs.YtnkdcmibafjplaaGreatDoor
