/-
  'strings.Trim' at a set of ASCII bytes: the library's contract at this program; what it leaves of a string of such bytes.
-/
import Derived.Test.YtdeeiifcjbmmiaaDoorProg
import Derived.Test.YtdeeiifcjbmmiaaDoorBase
import Derived.Shelf.Strings.SlTrimAscii
namespace Go.Proofs.YtdeeiifcjbmmiaaDoor
open Go.RowKit
set_option linter.unusedVariables false
set_option linter.unusedSimpArgs false

theorem dropWhile_all {α : Type} {p : α → Bool} : ∀ {l : List α}, l.dropWhile p = [] ↔ l.all p = true
  | [] => by simp
  | x :: l => by
    rw [List.dropWhile_cons, List.all_cons]
    by_cases h : p x = true
    · rw [if_pos h, h, Bool.true_and]; exact dropWhile_all
    · rw [if_neg h]; simp [h]
theorem dropWhile_some {α : Type} {p : α → Bool} : ∀ {l : List α}, l.all p = false → ∃ x r, l.dropWhile p = x :: r ∧ p x = false
  | [], h => by simp at h
  | x :: l, h => by
    rw [List.dropWhile_cons]
    by_cases hx : p x = true
    · rw [if_pos hx]; rw [List.all_cons, hx, Bool.true_and] at h; exact dropWhile_some h
    · rw [if_neg hx]; exact ⟨x, l, rfl, Bool.eq_false_iff.2 hx⟩
theorem trim_nil (l cs : List UInt8) : (Lib.trimS l cs = []) = (l.all (cs.contains ·) = true) := by
  apply propext
  unfold Lib.trimS Lib.trimLeftS Lib.trimRightS
  rw [dropWhile_all]
  constructor
  · intro h
    by_cases ha : l.reverse.all (cs.contains ·) = true
    · rw [List.all_eq_true] at ha ⊢
      exact fun x hx => ha x (List.mem_reverse.2 hx)
    · obtain ⟨x, r, e, hx⟩ := dropWhile_some (Bool.eq_false_iff.2 ha)
      rw [e, List.all_eq_true] at h
      have := h x (by simp)
      rw [hx] at this; cases this
  · intro h
    have ha : l.reverse.all (cs.contains ·) = true := by
      rw [List.all_eq_true] at h ⊢
      exact fun x hx => h x (List.mem_reverse.1 hx)
    rw [dropWhile_all.2 ha]; rfl
theorem trim_empty (t cs : List UInt8) : ((bstr (Lib.trimS t cs)).toList == []) = t.all (cs.contains ·) := by
  rw [bstr_toList]
  have := trim_nil t cs
  cases h : t.all (cs.contains ·)
  · rw [h] at this
    rw [beq_eq_false_iff_ne]
    intro e
    rw [e] at this
    simp at this
  · rw [h] at this
    rw [beq_iff_eq, this]
theorem trim_isEmpty (t cs : List UInt8) : (bstr (Lib.trimS t cs)).toList.isEmpty = t.all (cs.contains ·) := by
  rw [← trim_empty]
  cases (bstr (Lib.trimS t cs)).toList <;> rfl
def trimLays_ren : Go.Shelf.Ren := ⟨fun | 119 => 94 | 120 => 91 | 137 => 46 | 151 => 77 | 152 => 90 | 160 => 42 | 197 => 76 | 217 => 63 | 224 => 95 | 225 => 96 | 227 => 55 | 228 => 75 | 231 => 53 | 232 => 54 | 233 => 56 | 234 => 57 | 235 => 58 | 236 => 59 | 260 => 89 | 266 => 82 | 271 => 78 | n => n, fun | 0 => 0 | 3 => 3 | 4 => 4 | 5 => 5 | 9 => 9 | 21 => 21 | 46 => 82 | 105 => 109 | 116 => 87 | 117 => 88 | 119 => 124 | 124 => 91 | 138 => 126 | 139 => 127 | n => n, fun | 3 => 1 | 4 => 2 | n => n⟩
theorem trimLays : Lays.n160 Tryd.prog trimLays_ren := {
  mixed := by kernel_rfl,
  f119 := Tryd.func94.trans (congrArg some (by kernel_rfl)),
  f120 := Tryd.func91.trans (congrArg some (by kernel_rfl)),
  f137 := Tryd.func46.trans (congrArg some (by kernel_rfl)),
  f151 := Tryd.func77.trans (congrArg some (by kernel_rfl)),
  f152 := Tryd.func90.trans (congrArg some (by kernel_rfl)),
  f160 := Tryd.func42.trans (congrArg some (by kernel_rfl)),
  f197 := Tryd.func76.trans (congrArg some (by kernel_rfl)),
  f217 := Tryd.func63.trans (congrArg some (by kernel_rfl)),
  f224 := Tryd.func95.trans (congrArg some (by kernel_rfl)),
  f225 := Tryd.func96.trans (congrArg some (by kernel_rfl)),
  f227 := Tryd.func55.trans (congrArg some (by kernel_rfl)),
  f228 := Tryd.func75.trans (congrArg some (by kernel_rfl)),
  f231 := Tryd.func53.trans (congrArg some (by kernel_rfl)),
  f232 := Tryd.func54.trans (congrArg some (by kernel_rfl)),
  f233 := Tryd.func56.trans (congrArg some (by kernel_rfl)),
  f234 := Tryd.func57.trans (congrArg some (by kernel_rfl)),
  f235 := Tryd.func58.trans (congrArg some (by kernel_rfl)),
  f236 := Tryd.func59.trans (congrArg some (by kernel_rfl)),
  f260 := Tryd.func89.trans (congrArg some (by kernel_rfl)),
  f266 := Tryd.func82.trans (congrArg some (by kernel_rfl)),
  f271 := Tryd.func78.trans (congrArg some (by kernel_rfl)),
  t0 := Tryd.underlying0,
  a0 := Tryd.isAgg0,
  z0 := Tryd.sizeOf0,
  v0 := Tryd.zeroValue0,
  t3 := Tryd.underlying3,
  a3 := Tryd.isAgg3,
  z3 := Tryd.sizeOf3,
  v3 := Tryd.zeroValue3,
  t4 := Tryd.underlying4,
  a4 := Tryd.isAgg4,
  z4 := Tryd.sizeOf4,
  v4 := Tryd.zeroValue4,
  t5 := Tryd.underlying5,
  a5 := Tryd.isAgg5,
  z5 := Tryd.sizeOf5,
  v5 := Tryd.zeroValue5,
  t9 := Tryd.underlying9,
  a9 := Tryd.isAgg9,
  z9 := Tryd.sizeOf9,
  v9 := Tryd.zeroValue9,
  t21 := Tryd.underlying21,
  a21 := Tryd.isAgg21,
  z21 := Tryd.sizeOf21,
  v21 := Tryd.zeroValue21,
  t46 := Tryd.underlying82,
  a46 := Tryd.isAgg82,
  z46 := Tryd.sizeOf82,
  v46 := Tryd.zeroValue82,
  t105 := Tryd.underlying109,
  a105 := Tryd.isAgg109,
  z105 := Tryd.sizeOf109,
  v105 := Tryd.zeroValue109,
  t116 := Tryd.underlying87,
  a116 := Tryd.isAgg87,
  z116 := Tryd.sizeOf87,
  t117 := Tryd.underlying88,
  a117 := Tryd.isAgg88,
  z117 := Tryd.sizeOf88,
  v117 := Tryd.zeroValue88,
  t119 := Tryd.underlying124,
  a119 := Tryd.isAgg124,
  z119 := Tryd.sizeOf124,
  t124 := Tryd.underlying91,
  a124 := Tryd.isAgg91,
  z124 := Tryd.sizeOf91,
  v124 := Tryd.zeroValue91,
  t138 := Tryd.underlying126,
  a138 := Tryd.isAgg126,
  z138 := Tryd.sizeOf126,
  v138 := Tryd.zeroValue126,
  t139 := Tryd.underlying127,
  a139 := Tryd.isAgg127,
  z139 := Tryd.sizeOf127,
  v139 := Tryd.zeroValue127,
  g3 := by kernel_rfl,
  g4 := by kernel_rfl }
theorem trim_any (t cs : List UInt8) (w : World) (ht : t.length ≤ 9223372036854775807) (hcs : cs.length < 4294967281) (ha : cs.all (fun b => decide (b.toNat < 128)) = true) :
    Calls Tryd.prog 42 #[.string (bstr t), .string (bstr cs)] w fun e w' => e = .returned (.string (bstr (Lib.trimS t cs))) ∧ Below w.heap.size w w' :=
  Any.strings_Trim_laid trimLays (by kernel_rfl) (bstr t) (bstr cs) w ht hcs (ascii_of_all ha)
end Go.Proofs.YtdeeiifcjbmmiaaDoor
