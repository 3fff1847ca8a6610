/-
  strings.Join with a blank between, of a part of a row; 'joined' of the reference.
-/
import Derived.Test.YtnkdcmibafjplaaGreatDoorProg
import Derived.Test.YtnkdcmibafjplaaGreatDoorWords
import Derived.Shelf.Strings.OnBuilder
import Derived.Lib.Join
namespace Go.Proofs.YtnkdcmibafjplaaGreatDoor
open Go.RowKit
set_option linter.unusedVariables false
set_option linter.unusedSimpArgs false

def joinLays_ren : Go.Shelf.Ren := ⟨fun | 156 => 26 | 165 => 65 | 166 => 58 | 169 => 59 | 240 => 95 | 241 => 102 | 276 => 148 | 277 => 153 | n => n, fun | 0 => 0 | 3 => 3 | 4 => 4 | 5 => 5 | 9 => 9 | 20 => 20 | 31 => 22 | 37 => 33 | 70 => 136 | 72 => 138 | 75 => 143 | 76 => 144 | 80 => 146 | 127 => 176 | 164 => 215 | n => n, fun | n => n⟩
theorem joinLays : Lays.n156 Tryz.prog joinLays_ren := {
  mixed := by kernel_rfl,
  f156 := Tryz.func26.trans (congrArg some (by kernel_rfl)),
  f165 := Tryz.func65.trans (congrArg some (by kernel_rfl)),
  f166 := Tryz.func58.trans (congrArg some (by kernel_rfl)),
  f169 := Tryz.func59.trans (congrArg some (by kernel_rfl)),
  f240 := Tryz.func95.trans (congrArg some (by kernel_rfl)),
  f241 := Tryz.func102.trans (congrArg some (by kernel_rfl)),
  f276 := Tryz.func148.trans (congrArg some (by kernel_rfl)),
  f277 := Tryz.func153.trans (congrArg some (by kernel_rfl)),
  t0 := Tryz.underlying0,
  a0 := Tryz.isAgg0,
  z0 := Tryz.sizeOf0,
  v0 := Tryz.zeroValue0,
  t3 := Tryz.underlying3,
  a3 := Tryz.isAgg3,
  z3 := Tryz.sizeOf3,
  v3 := Tryz.zeroValue3,
  t4 := Tryz.underlying4,
  a4 := Tryz.isAgg4,
  z4 := Tryz.sizeOf4,
  v4 := Tryz.zeroValue4,
  t9 := Tryz.underlying9,
  a9 := Tryz.isAgg9,
  z9 := Tryz.sizeOf9,
  v9 := Tryz.zeroValue9,
  t20 := Tryz.underlying20,
  a20 := Tryz.isAgg20,
  z20 := Tryz.sizeOf20,
  v20 := Tryz.zeroValue20,
  t31 := Tryz.underlying22,
  a31 := Tryz.isAgg22,
  z31 := Tryz.sizeOf22,
  v31 := Tryz.zeroValue22,
  t37 := Tryz.underlying33,
  a37 := Tryz.isAgg33,
  z37 := Tryz.sizeOf33,
  v37 := Tryz.zeroValue33,
  t70 := Tryz.underlying136,
  a70 := Tryz.isAgg136,
  z70 := Tryz.sizeOf136,
  v70 := Tryz.zeroValue136,
  t72 := Tryz.underlying138,
  a72 := Tryz.isAgg138,
  z72 := Tryz.sizeOf138,
  v72 := Tryz.zeroValue138,
  t75 := Tryz.underlying143,
  a75 := Tryz.isAgg143,
  z75 := Tryz.sizeOf143,
  v75 := Tryz.zeroValue143,
  t76 := Tryz.underlying144,
  a76 := Tryz.isAgg144,
  z76 := Tryz.sizeOf144,
  v76 := Tryz.zeroValue144,
  t127 := Tryz.underlying176,
  a127 := Tryz.isAgg176,
  z127 := Tryz.sizeOf176,
  v127 := Tryz.zeroValue176,
  t164 := Tryz.underlying215,
  a164 := Tryz.isAgg215,
  z164 := Tryz.sizeOf215,
  v164 := Tryz.zeroValue215 }
theorem joinExtra : Builder.Extra Tryz.prog joinLays_ren := {
  sizeBuilder := by kernel_rfl,
  liesBuilder := by kernel_rfl,
  t5 := Tryz.underlying5,
  a5 := Tryz.isAgg5,
  z5 := Tryz.sizeOf5,
  v5 := Tryz.zeroValue5,
  infoByte := by kernel_rfl,
  cellsByte := by kernel_rfl,
  sizeByte := by kernel_rfl,
  neB5 := by decide }

theorem bstr_addJ (a b : List UInt8) : bstr a ++ bstr b = bstr (a ++ b) := by
  apply ByteArray.ext
  simp [bstr, ByteArray.data_append]
/-- Words with blanks between. -/
def sjoin (ls : List (List UInt8)) : List UInt8 := Lib.join ls [32]
theorem sjoin_nil : sjoin [] = [] := rfl
theorem sjoin_one (l : List (List UInt8)) (h : 0 < l.length) : sjoin (l.take 1) = l[0] := by
  obtain ⟨x, r, rfl⟩ : ∃ x r, l = x :: r := by
    cases l with
    | nil => simp at h
    | cons x r => exact ⟨x, r, rfl⟩
  exact Lib.join_one x [32]
theorem sjoin_succ (l : List (List UInt8)) (k : Nat) (h0 : 0 < k) (h : k < l.length) : sjoin (l.take (k + 1)) = sjoin (l.take k) ++ [32] ++ l[k] := by
  obtain ⟨x, r, rfl⟩ : ∃ x r, l = x :: r := by
    cases l with
    | nil => simp at h
    | cons x r => exact ⟨x, r, rfl⟩
  obtain ⟨j, rfl⟩ : ∃ j, k = j + 1 := ⟨k - 1, by omega⟩
  unfold sjoin
  have hr : j < r.length := by simpa using h
  rw [List.take_succ_cons, List.take_succ_cons, Lib.join_cons, Lib.join_cons, Lib.joinTail_take_succ [32] r j r[j] (List.getElem?_eq_getElem hr)]
  simp [List.append_assoc]
theorem joinTail_len (l : List (List UInt8)) (M : Nat) (hM : ∀ x ∈ l, x.length ≤ M) : (Lib.joinTail [32] l).length ≤ l.length * (M + 1) := by
  induction l with
  | nil => simp [Lib.joinTail]
  | cons x r ih =>
    have h1 := ih (fun y hy => hM y (List.mem_cons_of_mem _ hy))
    have h2 := hM x (List.mem_cons_self ..)
    unfold Lib.joinTail at h1 ⊢
    rw [List.map_cons, List.flatten_cons, List.length_append, List.length_append, show (x :: r).length = r.length + 1 from rfl, Nat.add_mul]
    simp only [List.length_singleton]
    omega
theorem sjoin_len (l : List (List UInt8)) (M : Nat) (hM : ∀ x ∈ l, x.length ≤ M) : (sjoin l).length ≤ l.length * (M + 1) := by
  cases l with
  | nil => simp [sjoin_nil]
  | cons x r =>
    have h1 := joinTail_len r M (fun y hy => hM y (List.mem_cons_of_mem _ hy))
    have h2 := hM x (List.mem_cons_self ..)
    unfold sjoin
    rw [Lib.join_cons, List.length_append, List.length_cons, Nat.add_mul]
    omega
theorem rowW_cell {w : World} {B g c : Nat} {ls : List (List UInt8)} (h : w.ownsRow B 9 1 (.slice (some ⟨g, 0, none⟩) ls.length c) ls.length (strs ls)) (j : Nat) (hj : j < ls.length) : w.cell? ⟨g, j, none⟩ = some (.string (bstr ls[j])) := by
  rcases h.2 with ⟨e, _⟩ | ⟨g', cap, cur, e, _, hh, _, _, _, h6⟩
  · cases e
  · injection e with e1 _ _
    injection e1 with e1
    injection e1 with e1 _ _
    subst e1
    rw [Nat.mul_one] at h6
    rw [cell_of_row w g j cur _ (0, 0) hh, ← Array.getElem?_toList, ← List.getElem?_take_of_lt hj, h6]
    simp [strs, hj]
theorem rowW_lt {w : World} {B g c n : Nat} {e : TypeId} {xs : List Value} (h : w.ownsRow B e 1 (.slice (some ⟨g, 0, none⟩) n c) n xs) : g < w.heap.size := (h.lt g rfl).2
theorem joinAt_any (B g c : Nat) (ls : List (List UInt8)) (w : World) (h : w.ownsRow B 9 1 (.slice (some ⟨g, 0, none⟩) ls.length c) ls.length (strs ls)) (hz : ∀ s ∈ ls, s.length ≤ 20000) (i m : Nat) (him : i + m ≤ ls.length) (hm : m ≤ 20001) (hc : ls.length ≤ c) :
    Calls Tryz.prog 26 #[.slice (some ⟨g, i, none⟩) m (c - i), .string ⟨#[32]⟩] w fun e w' => e = .returned (.string (bstr (sjoin ((ls.drop i).take m)))) ∧ Below w.heap.size w w' := by
  have hl : ((ls.drop i).take m).length = m := by rw [List.length_take, List.length_drop]; omega
  have hM : ∀ x ∈ (ls.drop i).take m, x.length ≤ 20000 := fun x hx => hz x (List.mem_of_mem_drop (List.mem_of_mem_take hx))
  have hmm : (((ls.drop i).take m).map bstr).map (·.data.toList) = (ls.drop i).take m := by rw [List.map_map]; exact (List.map_congr_left (fun x _ => rfl)).trans (List.map_id _)
  have hlen := sjoin_len _ 20000 hM
  rw [hl] at hlen
  have := Any.strings_Join joinLays joinExtra g i (c - i) (((ls.drop i).take m).map bstr) ⟨#[32]⟩ w (fun j x hx => by
    obtain ⟨hj, hx⟩ := List.getElem?_eq_some_iff.1 hx
    rw [List.length_map, hl] at hj
    rw [← hx, List.getElem_map, List.getElem_take, List.getElem_drop]
    exact rowW_cell h (i + j) (by omega)) (rowW_lt h) (by rw [List.length_map, hl]; omega) (by rw [List.length_map, hl]; omega) (by
      rw [hmm]; change (sjoin ((ls.drop i).take m)).length ≤ _
      have : m * (20000 + 1) ≤ 20001 * 20001 := Nat.mul_le_mul hm (Nat.le_refl _)
      omega)
  rw [List.length_map, hmm, hl] at this
  exact this
end Go.Proofs.YtnkdcmibafjplaaGreatDoor
