/-
  strings.Join with a blank between, of a part of a row; 'joined' of the reference.
-/
import Derived.Test.YtllbklnljmgppaaProg
import Derived.Test.YtllbklnljmgppaaWords
import Derived.Shelf.Strings.OnBuilder
import Derived.Lib.Join
namespace Go.Proofs.Ytllbklnljmgppaa
open Go.RowKit
set_option linter.unusedVariables false
set_option linter.unusedSimpArgs false

def joinLays_ren : Go.Shelf.Ren := ⟨fun | 156 => 50 | 165 => 60 | 166 => 61 | 169 => 62 | 240 => 67 | 241 => 68 | 276 => 80 | 277 => 81 | n => n, fun | 0 => 0 | 3 => 3 | 4 => 4 | 5 => 5 | 9 => 9 | 20 => 20 | 31 => 29 | 37 => 70 | 70 => 77 | 72 => 79 | 75 => 82 | 76 => 83 | 80 => 85 | 127 => 90 | 164 => 101 | n => n, fun | n => n⟩
theorem joinLays : Lays.n156 Try.prog joinLays_ren := {
  mixed := by kernel_rfl,
  f156 := Try.func50.trans (congrArg some (by kernel_rfl)),
  f165 := Try.func60.trans (congrArg some (by kernel_rfl)),
  f166 := Try.func61.trans (congrArg some (by kernel_rfl)),
  f169 := Try.func62.trans (congrArg some (by kernel_rfl)),
  f240 := Try.func67.trans (congrArg some (by kernel_rfl)),
  f241 := Try.func68.trans (congrArg some (by kernel_rfl)),
  f276 := Try.func80.trans (congrArg some (by kernel_rfl)),
  f277 := Try.func81.trans (congrArg some (by kernel_rfl)),
  t0 := Try.underlying0,
  a0 := Try.isAgg0,
  z0 := Try.sizeOf0,
  v0 := Try.zeroValue0,
  t3 := Try.underlying3,
  a3 := Try.isAgg3,
  z3 := Try.sizeOf3,
  v3 := Try.zeroValue3,
  t4 := Try.underlying4,
  a4 := Try.isAgg4,
  z4 := Try.sizeOf4,
  v4 := Try.zeroValue4,
  t9 := Try.underlying9,
  a9 := Try.isAgg9,
  z9 := Try.sizeOf9,
  v9 := Try.zeroValue9,
  t20 := Try.underlying20,
  a20 := Try.isAgg20,
  z20 := Try.sizeOf20,
  v20 := Try.zeroValue20,
  t31 := Try.underlying29,
  a31 := Try.isAgg29,
  z31 := Try.sizeOf29,
  v31 := Try.zeroValue29,
  t37 := Try.underlying70,
  a37 := Try.isAgg70,
  z37 := Try.sizeOf70,
  v37 := Try.zeroValue70,
  t70 := Try.underlying77,
  a70 := Try.isAgg77,
  z70 := Try.sizeOf77,
  v70 := Try.zeroValue77,
  t72 := Try.underlying79,
  a72 := Try.isAgg79,
  z72 := Try.sizeOf79,
  v72 := Try.zeroValue79,
  t75 := Try.underlying82,
  a75 := Try.isAgg82,
  z75 := Try.sizeOf82,
  v75 := Try.zeroValue82,
  t76 := Try.underlying83,
  a76 := Try.isAgg83,
  z76 := Try.sizeOf83,
  v76 := Try.zeroValue83,
  t127 := Try.underlying90,
  a127 := Try.isAgg90,
  z127 := Try.sizeOf90,
  v127 := Try.zeroValue90,
  t164 := Try.underlying101,
  a164 := Try.isAgg101,
  z164 := Try.sizeOf101,
  v164 := Try.zeroValue101 }
theorem joinExtra : Builder.Extra Try.prog joinLays_ren := {
  sizeBuilder := by kernel_rfl,
  liesBuilder := by kernel_rfl,
  t5 := Try.underlying5,
  a5 := Try.isAgg5,
  z5 := Try.sizeOf5,
  v5 := Try.zeroValue5,
  infoByte := by kernel_rfl,
  cellsByte := by kernel_rfl,
  sizeByte := by kernel_rfl,
  neB5 := by decide }

theorem bstr_addJ (a b : List UInt8) : bstr a ++ bstr b = bstr (a ++ b) := by
  apply ByteArray.ext
  simp [bstr, ByteArray.data_append]
/-- Words with blanks between. -/
def sjoin (ls : List (List UInt8)) : List UInt8 := Lib.join ls [32]
theorem sjoin_nil : sjoin [] = [] := rfl
theorem sjoin_one (l : List (List UInt8)) (h : 0 < l.length) : sjoin (l.take 1) = l[0] := by
  obtain ⟨x, r, rfl⟩ : ∃ x r, l = x :: r := by
    cases l with
    | nil => simp at h
    | cons x r => exact ⟨x, r, rfl⟩
  exact Lib.join_one x [32]
theorem sjoin_succ (l : List (List UInt8)) (k : Nat) (h0 : 0 < k) (h : k < l.length) : sjoin (l.take (k + 1)) = sjoin (l.take k) ++ [32] ++ l[k] := by
  obtain ⟨x, r, rfl⟩ : ∃ x r, l = x :: r := by
    cases l with
    | nil => simp at h
    | cons x r => exact ⟨x, r, rfl⟩
  obtain ⟨j, rfl⟩ : ∃ j, k = j + 1 := ⟨k - 1, by omega⟩
  unfold sjoin
  have hr : j < r.length := by simpa using h
  rw [List.take_succ_cons, List.take_succ_cons, Lib.join_cons, Lib.join_cons, Lib.joinTail_take_succ [32] r j r[j] (List.getElem?_eq_getElem hr)]
  simp [List.append_assoc]
theorem joinTail_len (l : List (List UInt8)) (M : Nat) (hM : ∀ x ∈ l, x.length ≤ M) : (Lib.joinTail [32] l).length ≤ l.length * (M + 1) := by
  induction l with
  | nil => simp [Lib.joinTail]
  | cons x r ih =>
    have h1 := ih (fun y hy => hM y (List.mem_cons_of_mem _ hy))
    have h2 := hM x (List.mem_cons_self ..)
    unfold Lib.joinTail at h1 ⊢
    rw [List.map_cons, List.flatten_cons, List.length_append, List.length_append, show (x :: r).length = r.length + 1 from rfl, Nat.add_mul]
    simp only [List.length_singleton]
    omega
theorem sjoin_len (l : List (List UInt8)) (M : Nat) (hM : ∀ x ∈ l, x.length ≤ M) : (sjoin l).length ≤ l.length * (M + 1) := by
  cases l with
  | nil => simp [sjoin_nil]
  | cons x r =>
    have h1 := joinTail_len r M (fun y hy => hM y (List.mem_cons_of_mem _ hy))
    have h2 := hM x (List.mem_cons_self ..)
    unfold sjoin
    rw [Lib.join_cons, List.length_append, List.length_cons, Nat.add_mul]
    omega
theorem rowW_cell {w : World} {B g c : Nat} {ls : List (List UInt8)} (h : w.ownsRow B 9 1 (.slice (some ⟨g, 0, none⟩) ls.length c) ls.length (strs ls)) (j : Nat) (hj : j < ls.length) : w.cell? ⟨g, j, none⟩ = some (.string (bstr ls[j])) := by
  rcases h.2 with ⟨e, _⟩ | ⟨g', cap, cur, e, _, hh, _, _, _, h6⟩
  · cases e
  · injection e with e1 _ _
    injection e1 with e1
    injection e1 with e1 _ _
    subst e1
    rw [Nat.mul_one] at h6
    rw [cell_of_row w g j cur _ (0, 0) hh, ← Array.getElem?_toList, ← List.getElem?_take_of_lt hj, h6]
    simp [strs, hj]
theorem rowW_lt {w : World} {B g c n : Nat} {e : TypeId} {xs : List Value} (h : w.ownsRow B e 1 (.slice (some ⟨g, 0, none⟩) n c) n xs) : g < w.heap.size := (h.lt g rfl).2
theorem joinAt_any (B g c : Nat) (ls : List (List UInt8)) (w : World) (h : w.ownsRow B 9 1 (.slice (some ⟨g, 0, none⟩) ls.length c) ls.length (strs ls)) (hz : ∀ s ∈ ls, s.length ≤ 20000) (i m : Nat) (him : i + m ≤ ls.length) (hm : m ≤ 20001) (hc : ls.length ≤ c) :
    Calls Try.prog 50 #[.slice (some ⟨g, i, none⟩) m (c - i), .string ⟨#[32]⟩] w fun e w' => e = .returned (.string (bstr (sjoin ((ls.drop i).take m)))) ∧ Below w.heap.size w w' := by
  have hl : ((ls.drop i).take m).length = m := by rw [List.length_take, List.length_drop]; omega
  have hM : ∀ x ∈ (ls.drop i).take m, x.length ≤ 20000 := fun x hx => hz x (List.mem_of_mem_drop (List.mem_of_mem_take hx))
  have hmm : (((ls.drop i).take m).map bstr).map (·.data.toList) = (ls.drop i).take m := by rw [List.map_map]; exact (List.map_congr_left (fun x _ => rfl)).trans (List.map_id _)
  have hlen := sjoin_len _ 20000 hM
  rw [hl] at hlen
  have := Any.strings_Join joinLays joinExtra g i (c - i) (((ls.drop i).take m).map bstr) ⟨#[32]⟩ w (fun j x hx => by
    obtain ⟨hj, hx⟩ := List.getElem?_eq_some_iff.1 hx
    rw [List.length_map, hl] at hj
    rw [← hx, List.getElem_map, List.getElem_take, List.getElem_drop]
    exact rowW_cell h (i + j) (by omega)) (rowW_lt h) (by rw [List.length_map, hl]; omega) (by rw [List.length_map, hl]; omega) (by
      rw [hmm]; change (sjoin ((ls.drop i).take m)).length ≤ _
      have : m * (20000 + 1) ≤ 20001 * 20001 := Nat.mul_le_mul hm (Nat.le_refl _)
      omega)
  rw [List.length_map, hmm, hl] at this
  exact this
set_option maxRecDepth 100000 in
theorem joined_any (B g c : Nat) (ls : List (List UInt8)) (w : World) (h : w.ownsRow B 9 1 (.slice (some ⟨g, 0, none⟩) ls.length c) ls.length (strs ls)) (hz : ∀ s ∈ ls, s.length ≤ 20000) (i m : Nat) (him : i + m ≤ ls.length) (hm : m ≤ 20001) (hc : ls.length ≤ c) :
    Calls Try.prog 58 #[.slice (some ⟨g, i, none⟩) m (c - i)] w fun e w' => e = .returned (.string (bstr (sjoin ((ls.drop i).take m)))) ∧ w' = w := by
  have hl : ((ls.drop i).take m).length = m := by rw [List.length_take, List.length_drop]; omega
  have hat : ∀ k (hk : k < ((ls.drop i).take m).length), w.cell? ⟨g, i + k, none⟩ = some (.string (bstr ((ls.drop i).take m)[k])) := fun k hk => by
    rw [List.getElem_take, List.getElem_drop]; exact rowW_cell h (i + k) (by omega)
  have hM : ∀ x ∈ (ls.drop i).take m, x.length ≤ 20000 := fun x hx => hz x (List.mem_of_mem_drop (List.mem_of_mem_take hx))
  generalize hL : (ls.drop i).take m = L at hat hl hM
  clear hL h him
  have HA := Lib.hid hat
  have HM := Lib.hid hM
  clear hat hM hz
  go_enter Try.func58, Try.ntmps58
  go_wp2_with fail
  go_loop [3, 8] (fun vo vi => ∃ k : Nat, k ≤ m ∧ vi = .int .i64 k ∧ vo = .string (bstr (sjoin (L.take k)))) (fun _ vi => m - (intOf vi).toNat)
  case atStart => exact ⟨0, Nat.zero_le _, rfl, rfl⟩
  case round =>
    obtain ⟨k, hk, rfl, rfl⟩ := hrel
    by_cases hlt : k < m
    · have c1 := HA.out k (by omega)
      have q1 : IntKind.i64.wrap ((k : Int) + 1) = ((k + 1 : Nat) : Int) := by rw [IntKind.wrap_i64]; omega
      by_cases h0 : 0 < k
      · have HS := Lib.hid (sjoin_succ L k h0 (by omega))
        have hxl := HM.out L[k] (List.getElem_mem _)
        have hTl := sjoin_len (L.take k) 20000 (fun x hx => HM.out x (List.mem_of_mem_take hx))
        have hTl2 : (sjoin (L.take k)).length ≤ 20001 * 20001 := Nat.le_trans hTl (Nat.mul_le_mul (by rw [List.length_take]; omega) (Nat.le_refl _))
        clear hTl
        generalize L[k] = x at *
        generalize sjoin (L.take k) = T at *
        have s1 : (bstr T).size = T.length := rfl
        have s2 : (bstr x).size = x.length := rfl
        have s3 : (bstr T ++ (⟨#[32]⟩ : ByteArray)).size = T.length + 1 := by rw [ByteArray.size_append]; rfl
        go_wp2_with fail
        go_round
        case rel => exact ⟨k + 1, by omega, by go_num, by rw [HS.out]; exact congrArg Value.string (by rw [show (⟨#[32]⟩ : ByteArray) = bstr [32] from rfl, bstr_addJ, bstr_addJ])⟩
        case measure => simp [intOf]; omega
      · obtain rfl : k = 0 := by omega
        have HS := Lib.hid (sjoin_one L (by omega))
        have hxl := HM.out L[0] (List.getElem_mem _)
        generalize L[0] = x at *
        have s2 : (bstr x).size = x.length := rfl
        have s1 : (bstr ([] : List UInt8)).size = 0 := rfl
        rw [show sjoin (L.take 0) = [] from rfl]
        rw [Nat.add_zero] at c1
        go_wp2_with fail
        go_round
        case rel => exact ⟨1, by omega, by go_num, by rw [HS.out]; exact congrArg Value.string (by rw [bstr_addJ]; rfl)⟩
        case measure => simp [intOf]; omega
    · obtain rfl : k = m := by omega
      rw [List.take_of_length_le (by omega : L.length ≤ k)]
      go_wp2_with fail
      go_ret
      exact ⟨rfl, rfl⟩
end Go.Proofs.Ytllbklnljmgppaa
