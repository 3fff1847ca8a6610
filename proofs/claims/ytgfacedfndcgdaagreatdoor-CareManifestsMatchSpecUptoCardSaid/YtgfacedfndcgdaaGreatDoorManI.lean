/-
  strconv.Itoa: the library's contract at this program; the table it reads.
-/
import Derived.Test.YtgfacedfndcgdaaGreatDoorManQ
import Derived.Shelf.Strconv.Itoa3
import Derived.Lib.AppendIntMem
namespace Go.Proofs.YtgfacedfndcgdaaGreatDoor
open Go.RowKit Go.Shelf
set_option linter.unusedVariables false
set_option linter.unusedSimpArgs false

def shItoa_ren : Go.Shelf.Ren := ⟨fun | 129 => 93 | 171 => 12 | 243 => 29 | 246 => 46 | 283 => 71 | 284 => 72 | 285 => 73 | 286 => 74 | 317 => 92 | 318 => 94 | 319 => 95 | 320 => 96 | 337 => 107 | 338 => 108 | n => n, fun | 0 => 0 | 2 => 2 | 3 => 3 | 4 => 4 | 5 => 5 | 9 => 9 | 20 => 20 | 37 => 54 | 46 => 102 | 51 => 94 | 53 => 75 | 171 => 97 | 173 => 100 | 212 => 116 | 213 => 117 | 232 => 138 | 233 => 139 | n => n, fun | 17 => 1 | 18 => 6 | 19 => 7 | n => n⟩
theorem shItoa : LaysM.n171 Tryz.prog shItoa_ren := {
  mixed := by kernel_rfl,
  f129 := Tryz.func93.trans (congrArg some (by kernel_rfl)),
  f171 := Tryz.func12.trans (congrArg some (by kernel_rfl)),
  f243 := Tryz.func29.trans (congrArg some (by kernel_rfl)),
  f246 := Tryz.func46.trans (congrArg some (by kernel_rfl)),
  f283 := Tryz.func71.trans (congrArg some (by kernel_rfl)),
  f284 := Tryz.func72.trans (congrArg some (by kernel_rfl)),
  f285 := Tryz.func73.trans (congrArg some (by kernel_rfl)),
  f286 := Tryz.func74.trans (congrArg some (by kernel_rfl)),
  f317 := Tryz.func92.trans (congrArg some (by kernel_rfl)),
  f318 := Tryz.func94.trans (congrArg some (by kernel_rfl)),
  f319 := Tryz.func95.trans (congrArg some (by kernel_rfl)),
  f320 := Tryz.func96.trans (congrArg some (by kernel_rfl)),
  f337 := Tryz.func107.trans (congrArg some (by kernel_rfl)),
  f338 := Tryz.func108.trans (congrArg some (by kernel_rfl)),
  t0 := Tryz.underlying0,
  a0 := Tryz.isAgg0,
  z0 := Tryz.sizeOf0,
  v0 := Tryz.zeroValue0,
  t2 := Tryz.underlying2,
  a2 := Tryz.isAgg2,
  z2 := Tryz.sizeOf2,
  v2 := Tryz.zeroValue2,
  t3 := Tryz.underlying3,
  a3 := Tryz.isAgg3,
  z3 := Tryz.sizeOf3,
  v3 := Tryz.zeroValue3,
  t4 := Tryz.underlying4,
  a4 := Tryz.isAgg4,
  z4 := Tryz.sizeOf4,
  v4 := Tryz.zeroValue4,
  t5 := Tryz.underlying5,
  a5 := Tryz.isAgg5,
  z5 := Tryz.sizeOf5,
  v5 := Tryz.zeroValue5,
  t9 := Tryz.underlying9,
  a9 := Tryz.isAgg9,
  z9 := Tryz.sizeOf9,
  v9 := Tryz.zeroValue9,
  t20 := Tryz.underlying20,
  a20 := Tryz.isAgg20,
  z20 := Tryz.sizeOf20,
  v20 := Tryz.zeroValue20,
  t37 := Tryz.underlying54,
  a37 := Tryz.isAgg54,
  z37 := Tryz.sizeOf54,
  v37 := Tryz.zeroValue54,
  t46 := Tryz.underlying102,
  a46 := Tryz.isAgg102,
  z46 := Tryz.sizeOf102,
  v46 := Tryz.zeroValue102,
  t51 := Tryz.underlying94,
  a51 := Tryz.isAgg94,
  z51 := Tryz.sizeOf94,
  v51 := Tryz.zeroValue94,
  t53 := Tryz.underlying75,
  a53 := Tryz.isAgg75,
  z53 := Tryz.sizeOf75,
  v53 := Tryz.zeroValue75,
  t171 := Tryz.underlying97,
  a171 := Tryz.isAgg97,
  z171 := Tryz.sizeOf97,
  v171 := Tryz.zeroValue97,
  t173 := Tryz.underlying100,
  a173 := Tryz.isAgg100,
  z173 := Tryz.sizeOf100,
  v173 := Tryz.zeroValue100,
  t212 := Tryz.underlying116,
  a212 := Tryz.isAgg116,
  z212 := Tryz.sizeOf116,
  v212 := Tryz.zeroValue116,
  t213 := Tryz.underlying117,
  a213 := Tryz.isAgg117,
  z213 := Tryz.sizeOf117,
  t232 := Tryz.underlying138,
  a232 := Tryz.isAgg138,
  z232 := Tryz.sizeOf138,
  v232 := Tryz.zeroValue138,
  t233 := Tryz.underlying139,
  a233 := Tryz.isAgg139,
  z233 := Tryz.sizeOf139,
  v233 := Tryz.zeroValue139,
  g17 := by kernel_rfl,
  g18 := by kernel_rfl,
  g19 := by kernel_rfl,
  i0 := by kernel_rfl,
  i2 := by kernel_rfl,
  i3 := by kernel_rfl,
  i4 := by kernel_rfl,
  i5 := by kernel_rfl,
  i9 := by kernel_rfl,
  i20 := by kernel_rfl,
  i37 := by kernel_rfl,
  i46 := by kernel_rfl,
  i51 := by kernel_rfl,
  i53 := by kernel_rfl,
  i171 := by kernel_rfl,
  i173 := by kernel_rfl,
  i212 := by kernel_rfl,
  i232 := by kernel_rfl,
  i233 := by kernel_rfl,
  m17 := by kernel_rfl,
  m18 := by kernel_rfl,
  m19 := by kernel_rfl }

def TI (w : World) : Prop := Lib.TabIs Tryz.prog w "internal/strconv.uint64pow10" .u64 Lib.pow10Tab
theorem TI.ext {w w' : World} (h : TI w) (hb : Below w.heap.size w w') : TI w' := (Lib.tabBelow_of_tabIs h) w' hb
theorem below_grownM (w : World) (q : Nat) (os : Array Obj) : Below w.heap.size w (Go.Sort.grow (w.drewN q) os) :=
  ⟨rfl, rfl, rfl, by show w.heap.size ≤ (w.heap ++ os).size; rw [Array.size_append]; omega, fun _ hj => Go.Sort.heap_grow_old (w.drewN q) os hj⟩
theorem itoa_any (n : Int) (w : World) (hT : TI w) (h0 : 0 ≤ n) (h1 : n ≤ 100000) :
    Calls Tryz.prog 12 #[.int .i64 n] w fun e w' => e = .returned (.string (bstr (Lib.itoa n))) ∧ Below w.heap.size w w' := by
  refine (Any.strconv_Itoa shItoa n (by omega) (by omega) w hT).mono ?_
  rintro e w' ⟨rfl, k, os, rfl⟩
  exact ⟨rfl, below_grownM _ _ _⟩
theorem itoa_len {n : Int} (h0 : 0 ≤ n) (h1 : n ≤ 100000) : (Lib.itoa n).length ≤ 9 := by
  have h := (itoa_num h0 h1).1
  unfold numB at h
  rw [Bool.and_eq_true, Bool.and_eq_true, decide_eq_true_iff, decide_eq_true_iff] at h
  exact h.1.2
theorem str_plus (a b : List UInt8) : bstr a ++ bstr b = bstr (a ++ b) := by
  apply str_inj
  rw [ByteArray.toList_eq, ByteArray.toList_eq]
  simp [bstr, ByteArray.data_append]
/-- What Manifest answers. -/
def mtOut (n : List UInt8) (l : List Ent) : List UInt8 × Int := if packFault n l = 0 then (if 400000 < (manText n l).length then ([], 2) else (manText n l, 0)) else ([], packFault n l)
theorem mt_bad {n : List UInt8} {l : List Ent} (h : ¬ packFault n l = 0) : mtOut n l = ([], packFault n l) := by unfold mtOut; rw [if_neg h]
theorem mt_large {n : List UInt8} {l : List Ent} (h : packFault n l = 0) (h2 : 400000 < (manText n l).length) : mtOut n l = ([], 2) := by unfold mtOut; rw [if_pos h, if_pos h2]
theorem mt_ok {n : List UInt8} {l : List Ent} (h : packFault n l = 0) (h2 : ¬ 400000 < (manText n l).length) : mtOut n l = (manText n l, 0) := by unfold mtOut; rw [if_pos h, if_neg h2]
/-- The body after k entries. -/
def mbK (n : List UInt8) (l : List Ent) (k : Nat) : List UInt8 := manBody n (l.take k)
theorem mbK_zero (n : List UInt8) (l : List Ent) : mbK n l 0 = kPack ++ [32] ++ n ++ [10] := by unfold mbK manBody; simp
theorem mbK_all (n : List UInt8) (l : List Ent) : mbK n l l.length = manBody n l := by unfold mbK; rw [List.take_length]
theorem mbK_succ (n : List UInt8) {l : List Ent} {k : Nat} (hk : k < l.length) : mbK n l (k + 1) = mbK n l k ++ (entT l[k] ++ [10]) := by
  unfold mbK manBody
  rw [List.take_succ_eq_append_getElem hk, List.flatMap_append]
  simp
theorem txt_len {e : Ent} (h1 : e.digest.length ≤ 20) (h2 : e.path.length ≤ 2100) (h3 : 0 ≤ e.size ∧ e.size ≤ 100000) : (entT e ++ [10]).length ≤ 2200 := by
  have := itoa_len h3.1 h3.2
  unfold entT
  simp
  omega
theorem pack_sizes {n : List UInt8} {l : List Ent} (h : packFault n l = 0) : n.length ≤ 1000 ∧ l.length ≤ 500 ∧ ∀ e ∈ l, (0 ≤ e.size ∧ e.size ≤ 100000) ∧ e.digest.length ≤ 20 ∧ e.path.length ≤ 2100 := by
  obtain ⟨h1, h2, _⟩ := pack_ok h
  refine ⟨by have := nm_len h1; omega, h2, fun e he => ?_⟩
  have hf := h
  unfold packFault at hf
  split at hf
  · exact absurd hf (by decide)
  unfold entsFault at hf
  split at hf
  · exact absurd hf (by decide)
  obtain ⟨i, hi, rfl⟩ := List.getElem_of_mem he
  have hf := firstF_all hf i hi
  have a1 : isPathB l[i].path = true := by
    cases e : isPathB l[i].path with
    | true => rfl
    | false => rw [entF_1 hi e] at hf; exact absurd hf (by decide)
  have a2 : withinB l[i].size 0 100000 = true := by
    cases e : withinB l[i].size 0 100000 with
    | true => rfl
    | false => rw [entF_2 hi a1 e] at hf; exact absurd hf (by decide)
  have a3 : isDig l[i].digest = true := by
    cases e : isDig l[i].digest with
    | true => rfl
    | false => rw [entF_3 hi a1 a2 e] at hf; exact absurd hf (by decide)
  refine ⟨of_decide_eq_true a2, by have := isDig_len a3; omega, ?_⟩
  unfold isPathB at a1
  rw [Bool.and_eq_true] at a1
  have a1 := a1.1
  unfold isRowB at a1
  rw [Bool.and_eq_true, Bool.and_eq_true, decide_eq_true_iff, decide_eq_true_iff] at a1
  omega
theorem mbK_len {n : List UInt8} {l : List Ent} (h : packFault n l = 0) : ∀ k, k ≤ l.length → (mbK n l k).length ≤ 2200 + 2200 * k
  | 0, _ => by
    have := (pack_sizes h).1
    rw [mbK_zero]
    simp [kPack]
    omega
  | k + 1, hk => by
    have h2 := mbK_len h k (by omega)
    obtain ⟨e1, e2, e3⟩ := (pack_sizes h).2.2 l[k] (List.getElem_mem _)
    have h3 := txt_len e2 e3 e1
    rw [mbK_succ n (show k < l.length by omega), List.length_append]
    omega
end Go.Proofs.YtgfacedfndcgdaaGreatDoor
