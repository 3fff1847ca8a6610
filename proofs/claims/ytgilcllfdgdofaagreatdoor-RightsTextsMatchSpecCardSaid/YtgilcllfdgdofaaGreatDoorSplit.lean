/-
  'strings.Split' at '/': the library's contract at this program; 'isPath' of care.
-/
import Derived.Test.YtgilcllfdgdofaaGreatDoorProg
import Derived.Test.YtgilcllfdgdofaaGreatDoorRow
import Derived.Test.YtgilcllfdgdofaaGreatDoorRows11
import Derived.Shelf.Strings.Split
namespace Go.Proofs.YtgilcllfdgdofaaGreatDoor
open Go.RowKit Go.Shelf
set_option linter.unusedVariables false
set_option linter.unusedSimpArgs false

def splitLays_ren : Go.Shelf.Ren := ⟨fun | 138 => 67 | 143 => 68 | 146 => 25 | 195 => 99 | 197 => 100 | 217 => 69 | 218 => 101 | 219 => 49 | 221 => 48 | 224 => 71 | 225 => 70 | 260 => 127 | 266 => 102 | 267 => 72 | 268 => 66 | 314 => 103 | n => n, fun | 0 => 0 | 3 => 3 | 4 => 4 | 5 => 5 | 9 => 9 | 21 => 21 | 31 => 57 | 46 => 103 | 51 => 133 | 105 => 131 | 119 => 163 | 138 => 165 | 139 => 166 | 146 => 134 | n => n, fun | 1 => 0 | 3 => 4 | 4 => 5 | n => n⟩
theorem splitLays : Lays.n146 Tryz.prog splitLays_ren := {
  mixed := by kernel_rfl,
  f138 := Tryz.func67.trans (congrArg some (by kernel_rfl)),
  f143 := Tryz.func68.trans (congrArg some (by kernel_rfl)),
  f146 := Tryz.func25.trans (congrArg some (by kernel_rfl)),
  f195 := Tryz.func99.trans (congrArg some (by kernel_rfl)),
  f197 := Tryz.func100.trans (congrArg some (by kernel_rfl)),
  f217 := Tryz.func69.trans (congrArg some (by kernel_rfl)),
  f218 := Tryz.func101.trans (congrArg some (by kernel_rfl)),
  f219 := Tryz.func49.trans (congrArg some (by kernel_rfl)),
  f221 := Tryz.func48.trans (congrArg some (by kernel_rfl)),
  f224 := Tryz.func71.trans (congrArg some (by kernel_rfl)),
  f225 := Tryz.func70.trans (congrArg some (by kernel_rfl)),
  f260 := Tryz.func127.trans (congrArg some (by kernel_rfl)),
  f266 := Tryz.func102.trans (congrArg some (by kernel_rfl)),
  f267 := Tryz.func72.trans (congrArg some (by kernel_rfl)),
  f268 := Tryz.func66.trans (congrArg some (by kernel_rfl)),
  f314 := Tryz.func103.trans (congrArg some (by kernel_rfl)),
  t0 := Tryz.underlying0,
  a0 := Tryz.isAgg0,
  z0 := Tryz.sizeOf0,
  v0 := Tryz.zeroValue0,
  t3 := Tryz.underlying3,
  a3 := Tryz.isAgg3,
  z3 := Tryz.sizeOf3,
  v3 := Tryz.zeroValue3,
  t4 := Tryz.underlying4,
  a4 := Tryz.isAgg4,
  z4 := Tryz.sizeOf4,
  v4 := Tryz.zeroValue4,
  t5 := Tryz.underlying5,
  a5 := Tryz.isAgg5,
  z5 := Tryz.sizeOf5,
  v5 := Tryz.zeroValue5,
  t9 := Tryz.underlying9,
  a9 := Tryz.isAgg9,
  z9 := Tryz.sizeOf9,
  v9 := Tryz.zeroValue9,
  t21 := Tryz.underlying21,
  a21 := Tryz.isAgg21,
  z21 := Tryz.sizeOf21,
  v21 := Tryz.zeroValue21,
  t31 := Tryz.underlying57,
  a31 := Tryz.isAgg57,
  z31 := Tryz.sizeOf57,
  v31 := Tryz.zeroValue57,
  t46 := Tryz.underlying103,
  a46 := Tryz.isAgg103,
  z46 := Tryz.sizeOf103,
  v46 := Tryz.zeroValue103,
  t51 := Tryz.underlying133,
  a51 := Tryz.isAgg133,
  z51 := Tryz.sizeOf133,
  v51 := Tryz.zeroValue133,
  t105 := Tryz.underlying131,
  a105 := Tryz.isAgg131,
  z105 := Tryz.sizeOf131,
  v105 := Tryz.zeroValue131,
  t119 := Tryz.underlying163,
  a119 := Tryz.isAgg163,
  z119 := Tryz.sizeOf163,
  t138 := Tryz.underlying165,
  a138 := Tryz.isAgg165,
  z138 := Tryz.sizeOf165,
  v138 := Tryz.zeroValue165,
  t139 := Tryz.underlying166,
  a139 := Tryz.isAgg166,
  z139 := Tryz.sizeOf166,
  v139 := Tryz.zeroValue166,
  t146 := Tryz.underlying134,
  a146 := Tryz.isAgg134,
  z146 := Tryz.sizeOf134,
  v146 := Tryz.zeroValue134,
  g1 := by kernel_rfl,
  g3 := by kernel_rfl,
  g4 := by kernel_rfl }
/-- The variable of the library holds some number. -/
def GInt (w : World) : Prop := ∃ m, w.cell? ⟨0, 0, none⟩ = some (.int .i64 m)
theorem GInt.lt {w : World} (h : GInt w) : 0 < w.heap.size := by
  obtain ⟨m, hm⟩ := h
  exact World.block_lt_of_cell? w _ hm
theorem GInt.ext {w w' : World} (h : GInt w) (hb : Below w.heap.size w w') : GInt w' := by
  have hl := h.lt
  obtain ⟨m, hm⟩ := h
  exact ⟨m, (hb.cell (p := ⟨0, 0, none⟩) hl).trans hm⟩
/-- The parts of a path. -/
def segs (t : List UInt8) : List ByteArray := Lib.splitB ⟨#[47]⟩ 0 (Lib.countB (bstr t) ⟨#[47]⟩) (bstr t)
theorem segs_len (t : List UInt8) : (segs t).length = Lib.countB (bstr t) ⟨#[47]⟩ + 1 := Lib.splitB_all ⟨#[47]⟩ (by decide) 0 _ (bstr t) rfl
def segBad (s : ByteArray) : Bool := s.toList.isEmpty || (s.toList == [46] || s.toList == [46, 46])
def isPathB (t : List UInt8) : Bool := isRowB t 2100 && (segs t).all fun s => !segBad s
theorem split_any (t : List UInt8) (w : World) (hG : GInt w) (ht : t.length ≤ 100000) :
    Calls Tryz.prog 25 #[.string (bstr t), .string ⟨#[47]⟩] w fun e w' => e = .returned (.slice (some ⟨w.heap.size, 0, none⟩) (segs t).length (segs t).length) ∧ w' = w.alloc (.cells ((segs t).map Value.string).toArray 9) := by
  obtain ⟨m, hm⟩ := hG
  rw [segs_len]
  exact Any.strings_Split splitLays string_info (bstr t) ⟨#[47]⟩ m w (by rw [bstr_size]; omega) hm (by decide)
theorem seg_cell (l : List ByteArray) (w : World) (k : Nat) (h : k < l.length) : (w.alloc (.cells (l.map Value.string).toArray 9)).cell? ((⟨w.heap.size, 0, none⟩ : Addr).add k) = some (.string l[k]) := by
  have hadd : (⟨w.heap.size, 0, none⟩ : Addr).add k = ⟨w.heap.size, k, none⟩ := by unfold Addr.add; split <;> simp_all
  rw [hadd, cell_of_row _ _ k _ 9 (0, 0) (heap_alloc_new w _)]
  simp [h]
theorem segs_bad {l : List ByteArray} {k : Nat} (h : k < l.length) (hb : segBad l[k] = true) : (l.all fun s => !segBad s) = false := by
  cases hall : l.all fun s => !segBad s with
  | false => rfl
  | true =>
    have := List.all_eq_true.1 hall l[k] (List.getElem_mem h)
    rw [hb] at this
    cases this
end Go.Proofs.YtgilcllfdgdofaaGreatDoor
