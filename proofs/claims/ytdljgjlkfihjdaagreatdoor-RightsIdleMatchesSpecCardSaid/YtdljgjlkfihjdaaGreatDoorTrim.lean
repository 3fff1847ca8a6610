/-
  'strings.Trim' at a set of ASCII bytes: the library's contract at this program; what it leaves of a string of such bytes.
-/
import Derived.Test.YtdljgjlkfihjdaaGreatDoorProg
import Derived.Test.YtdljgjlkfihjdaaGreatDoorBase
import Derived.Shelf.Strings.SlTrimAscii
namespace Go.Proofs.YtdljgjlkfihjdaaGreatDoor
open Go.RowKit
set_option linter.unusedVariables false
set_option linter.unusedSimpArgs false

theorem dropWhile_all {α : Type} {p : α → Bool} : ∀ {l : List α}, l.dropWhile p = [] ↔ l.all p = true
  | [] => by simp
  | x :: l => by
    rw [List.dropWhile_cons, List.all_cons]
    by_cases h : p x = true
    · rw [if_pos h, h, Bool.true_and]; exact dropWhile_all
    · rw [if_neg h]; simp [h]
theorem dropWhile_some {α : Type} {p : α → Bool} : ∀ {l : List α}, l.all p = false → ∃ x r, l.dropWhile p = x :: r ∧ p x = false
  | [], h => by simp at h
  | x :: l, h => by
    rw [List.dropWhile_cons]
    by_cases hx : p x = true
    · rw [if_pos hx]; rw [List.all_cons, hx, Bool.true_and] at h; exact dropWhile_some h
    · rw [if_neg hx]; exact ⟨x, l, rfl, Bool.eq_false_iff.2 hx⟩
theorem trim_nil (l cs : List UInt8) : (Lib.trimS l cs = []) = (l.all (cs.contains ·) = true) := by
  apply propext
  unfold Lib.trimS Lib.trimLeftS Lib.trimRightS
  rw [dropWhile_all]
  constructor
  · intro h
    by_cases ha : l.reverse.all (cs.contains ·) = true
    · rw [List.all_eq_true] at ha ⊢
      exact fun x hx => ha x (List.mem_reverse.2 hx)
    · obtain ⟨x, r, e, hx⟩ := dropWhile_some (Bool.eq_false_iff.2 ha)
      rw [e, List.all_eq_true] at h
      have := h x (by simp)
      rw [hx] at this; cases this
  · intro h
    have ha : l.reverse.all (cs.contains ·) = true := by
      rw [List.all_eq_true] at h ⊢
      exact fun x hx => h x (List.mem_reverse.1 hx)
    rw [dropWhile_all.2 ha]; rfl
theorem trim_empty (t cs : List UInt8) : ((bstr (Lib.trimS t cs)).toList == []) = t.all (cs.contains ·) := by
  rw [bstr_toList]
  have := trim_nil t cs
  cases h : t.all (cs.contains ·)
  · rw [h] at this
    rw [beq_eq_false_iff_ne]
    intro e
    rw [e] at this
    simp at this
  · rw [h] at this
    rw [beq_iff_eq, this]
theorem trim_isEmpty (t cs : List UInt8) : (bstr (Lib.trimS t cs)).toList.isEmpty = t.all (cs.contains ·) := by
  rw [← trim_empty]
  cases (bstr (Lib.trimS t cs)).toList <;> rfl
def trimLays_ren : Go.Shelf.Ren := ⟨fun | 119 => 123 | 120 => 119 | 137 => 122 | 151 => 107 | 152 => 118 | 160 => 63 | 197 => 106 | 217 => 126 | 224 => 124 | 225 => 125 | 227 => 79 | 228 => 105 | 231 => 77 | 232 => 78 | 233 => 80 | 234 => 81 | 235 => 82 | 236 => 83 | 260 => 117 | 266 => 127 | 271 => 108 | n => n, fun | 0 => 0 | 3 => 3 | 4 => 4 | 5 => 5 | 9 => 9 | 21 => 21 | 46 => 91 | 105 => 122 | 116 => 99 | 117 => 100 | 119 => 138 | 124 => 103 | 138 => 140 | 139 => 141 | n => n, fun | 3 => 1 | 4 => 2 | n => n⟩
theorem trimLays : Lays.n160 Tryz.prog trimLays_ren := {
  mixed := by kernel_rfl,
  f119 := Tryz.func123.trans (congrArg some (by kernel_rfl)),
  f120 := Tryz.func119.trans (congrArg some (by kernel_rfl)),
  f137 := Tryz.func122.trans (congrArg some (by kernel_rfl)),
  f151 := Tryz.func107.trans (congrArg some (by kernel_rfl)),
  f152 := Tryz.func118.trans (congrArg some (by kernel_rfl)),
  f160 := Tryz.func63.trans (congrArg some (by kernel_rfl)),
  f197 := Tryz.func106.trans (congrArg some (by kernel_rfl)),
  f217 := Tryz.func126.trans (congrArg some (by kernel_rfl)),
  f224 := Tryz.func124.trans (congrArg some (by kernel_rfl)),
  f225 := Tryz.func125.trans (congrArg some (by kernel_rfl)),
  f227 := Tryz.func79.trans (congrArg some (by kernel_rfl)),
  f228 := Tryz.func105.trans (congrArg some (by kernel_rfl)),
  f231 := Tryz.func77.trans (congrArg some (by kernel_rfl)),
  f232 := Tryz.func78.trans (congrArg some (by kernel_rfl)),
  f233 := Tryz.func80.trans (congrArg some (by kernel_rfl)),
  f234 := Tryz.func81.trans (congrArg some (by kernel_rfl)),
  f235 := Tryz.func82.trans (congrArg some (by kernel_rfl)),
  f236 := Tryz.func83.trans (congrArg some (by kernel_rfl)),
  f260 := Tryz.func117.trans (congrArg some (by kernel_rfl)),
  f266 := Tryz.func127.trans (congrArg some (by kernel_rfl)),
  f271 := Tryz.func108.trans (congrArg some (by kernel_rfl)),
  t0 := Tryz.underlying0,
  a0 := Tryz.isAgg0,
  z0 := Tryz.sizeOf0,
  v0 := Tryz.zeroValue0,
  t3 := Tryz.underlying3,
  a3 := Tryz.isAgg3,
  z3 := Tryz.sizeOf3,
  v3 := Tryz.zeroValue3,
  t4 := Tryz.underlying4,
  a4 := Tryz.isAgg4,
  z4 := Tryz.sizeOf4,
  v4 := Tryz.zeroValue4,
  t5 := Tryz.underlying5,
  a5 := Tryz.isAgg5,
  z5 := Tryz.sizeOf5,
  v5 := Tryz.zeroValue5,
  t9 := Tryz.underlying9,
  a9 := Tryz.isAgg9,
  z9 := Tryz.sizeOf9,
  v9 := Tryz.zeroValue9,
  t21 := Tryz.underlying21,
  a21 := Tryz.isAgg21,
  z21 := Tryz.sizeOf21,
  v21 := Tryz.zeroValue21,
  t46 := Tryz.underlying91,
  a46 := Tryz.isAgg91,
  z46 := Tryz.sizeOf91,
  v46 := Tryz.zeroValue91,
  t105 := Tryz.underlying122,
  a105 := Tryz.isAgg122,
  z105 := Tryz.sizeOf122,
  v105 := Tryz.zeroValue122,
  t116 := Tryz.underlying99,
  a116 := Tryz.isAgg99,
  z116 := Tryz.sizeOf99,
  t117 := Tryz.underlying100,
  a117 := Tryz.isAgg100,
  z117 := Tryz.sizeOf100,
  v117 := Tryz.zeroValue100,
  t119 := Tryz.underlying138,
  a119 := Tryz.isAgg138,
  z119 := Tryz.sizeOf138,
  t124 := Tryz.underlying103,
  a124 := Tryz.isAgg103,
  z124 := Tryz.sizeOf103,
  v124 := Tryz.zeroValue103,
  t138 := Tryz.underlying140,
  a138 := Tryz.isAgg140,
  z138 := Tryz.sizeOf140,
  v138 := Tryz.zeroValue140,
  t139 := Tryz.underlying141,
  a139 := Tryz.isAgg141,
  z139 := Tryz.sizeOf141,
  v139 := Tryz.zeroValue141,
  g3 := by kernel_rfl,
  g4 := by kernel_rfl }
theorem trim_any (t cs : List UInt8) (w : World) (ht : t.length ≤ 9223372036854775807) (hcs : cs.length < 4294967281) (ha : cs.all (fun b => decide (b.toNat < 128)) = true) :
    Calls Tryz.prog 63 #[.string (bstr t), .string (bstr cs)] w fun e w' => e = .returned (.string (bstr (Lib.trimS t cs))) ∧ Below w.heap.size w w' :=
  Any.strings_Trim_laid trimLays (by kernel_rfl) (bstr t) (bstr cs) w ht hcs (ascii_of_all ha)
end Go.Proofs.YtdljgjlkfihjdaaGreatDoor
