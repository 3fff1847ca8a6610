/-
  '[]byte(s)'.
-/
import Derived.Test.YtnkdcmibafjplaaGreatDoorProg
import Derived.Test.YtnkdcmibafjplaaGreatDoorBase
import Derived.Lib.Strings
namespace Go.Proofs.YtnkdcmibafjplaaGreatDoor
open Go.RowKit
set_option linter.unusedVariables false
set_option linter.unusedSimpArgs false
theorem conv_str {P : Program} (w : World) (src dst e : TypeId) (bs : List UInt8) (hs : P.underlying src = some .string) (hd : P.underlying dst = some (.slice e)) (he : P.underlying e = some (.int .u8)) (hl : bs.length ≤ maxLen) :
    ∃ c w', (convert src dst (.string (bstr bs))).run P w = .ok (.slice (some ⟨w.heap.size, 0, none⟩) bs.length c) w' ∧ (Rp.sl Rp.u8).ok w' (fun _ => True) [.slice (some ⟨w.heap.size, 0, none⟩) bs.length c] bs ∧ ∀ B w0, B ≤ w.heap.size → Below B w0 w → Below B w0 w' := by
  refine ⟨_, _, run_bytes_of_string w src dst e (bstr bs) hs hd he, ?_, fun B w0 h1 h2 => ?_⟩
  · refine ⟨_, _, rfl, grownCap_ge w (bstr bs).size 0 e, grownCap_le_maxLen w _ 0 e hl, by simp, fun j hj => ⟨_, _, rfl, trivial, rfl, fun i u hu => ?_⟩⟩
    have hi : i = 0 := by
      match i, hu with
      | 0, _ => rfl
    subst hi
    have hadd : (⟨w.heap.size, 0, none⟩ : Addr).add (j * Rp.u8.sz + 0) = ⟨w.heap.size, j, none⟩ := by unfold Addr.add; simp only [Rp.u8, Nat.mul_one, Nat.add_zero]; split <;> simp_all
    rw [hadd, ← hu]
    exact (cell_of_row _ _ j _ e _ (heap_alloc_new w.drew _)).trans (bytesRow_at (bstr bs) _ j hj)
  · exact Below.alloc (below_drewN h2 1) h1 _

theorem string_info : (Tryz.prog.info? 9).map (fun i => (i.zero, i.size, i.bytes)) = some (some (.string (bstr [])), 1, 16) := by kernel_rfl
section
variable {ops : Array Oper} {o : Oper} {a : Act} {Q : Exit → Act → World → Prop}
/-- 'append(v, s)' of one string. -/
theorem app_str {w : World} {rest : List Oper} (hgd : o.guard = none) (s x : Operand) (ho : o.op = .call { callee := .builtin .append, args := #[s, x], argTypes := #[22, 22] })
    {B : Nat} {v : Value} {n : Nat} {xs : List Value} {b : ByteArray} (hown : w.ownsRow B 9 1 v n xs) (hB : B ≤ w.heap.size)
    (hs : a.eval s = v) (hx : a.eval x = .slice (some ⟨w.heap.size, 0, none⟩) 1 1) (hn : n ≤ 1000000000)
    (h : ∀ g c w', Hid (w'.ownsRow B 9 1 (.slice (some ⟨g, 0, none⟩) (n + 1) c) (n + 1) (xs ++ [.string b])) → Hid (w.grownBy w' v.ownBlock) → Hid (∀ w0, Below B w0 w → Below B w0 w') → Hid (v.ownBlock = some g ∨ w.heap.size ≤ g) →
      wpList Tryz.prog ops Q rest (a.put o.dst (.slice (some ⟨g, 0, none⟩) (n + 1) c)) w') :
    wpList Tryz.prog ops Q (o :: rest) a (w.alloc (.cells #[.string b] 9)) :=
  app_new hgd s x 22 ho 9 (.string (bstr [])) 1 16 Tryz.underlying22 string_info rfl (by decide) [.string b] hown hB hs hx rfl (by decide) (by simp [Value.oneCell']) (by unfold maxLen; omega) (by omega) h
theorem step_app_str {W : World} {K : Act → World → Prop} {E' : Prop} (w : World) (hgd : o.guard = none) (s x : Operand) (ho : o.op = .call { callee := .builtin .append, args := #[s, x], argTypes := #[22, 22] })
    {B : Nat} {v : Value} {n : Nat} {xs : List Value} {b : ByteArray} (k : Nat) (hW : W = (w.alloc (.cells #[.string b] 9)).drewN k) (hown : w.ownsRow B 9 1 v n xs) (hB : B ≤ w.heap.size)
    (hs : a.eval s = v) (hx : a.eval x = .slice (some ⟨w.heap.size, 0, none⟩) 1 1) (hn : n ≤ 1000000000)
    (h : ∀ g c w', Hid (w'.ownsRow B 9 1 (.slice (some ⟨g, 0, none⟩) (n + 1) c) (n + 1) (xs ++ [.string b])) → Hid (w.grownBy w' v.ownBlock) → Hid (∀ w0, Below B w0 w → Below B w0 w') → Hid (v.ownBlock = some g ∨ w.heap.size ≤ g) →
      K (a.put o.dst (.slice (some ⟨g, 0, none⟩) (n + 1) c)) w') :
    if Region.wanted o (yielded ops a.tmps) = true then Oper.wp Tryz.prog o a W K Q else E' :=
  step_app_new hgd s x 22 ho 9 (.string (bstr [])) 1 16 Tryz.underlying22 string_info rfl (by decide) [.string b] k hW hown hB hs hx rfl (by decide) (by simp [Value.oneCell']) (by unfold maxLen; omega) (by omega) h
end
/-- A literal row of strings. -/
theorem lit_strs (w : World) (l : List ByteArray) (hl : ∀ x ∈ l, x.size ≤ maxLen) (h2 : l.length ≤ 1000) :
    (Rp.sl Rp.str).ok (w.alloc (.cells (l.map .string).toArray 9)) (· < (w.alloc (.cells (l.map .string).toArray 9)).heap.size) [.slice (some ⟨w.heap.size, 0, none⟩) l.length l.length] l := by
  refine ⟨_, _, rfl, Nat.le_refl _, by unfold maxLen; omega, by simp, fun k hk => ?_⟩
  refine ⟨_, [.string l[k]], rfl, by simp, ⟨rfl, hl _ (List.getElem_mem hk)⟩, fun j u hu => ?_⟩
  match j, hu with
  | 0, hu =>
    have hadd : (⟨w.heap.size, 0, none⟩ : Addr).add (k * Rp.str.sz + 0) = ⟨w.heap.size, k, none⟩ := by unfold Addr.add; simp only [Rp.str, Nat.mul_one, Nat.add_zero]; split <;> simp_all
    rw [hadd]
    refine (cell_of_row _ _ k _ _ _ (heap_alloc_new w _)).trans ?_
    rw [← hu]; simp [hk]
/-- The Boolean tests of a string against "". -/
theorem bstr_empty {t : List UInt8} (h : t = []) : (bstr t).toList.isEmpty = true := by rw [bstr_toList, h]; rfl
theorem bstr_some {t : List UInt8} (h : t ≠ []) : (bstr t).toList.isEmpty = false := by rw [bstr_toList]; cases t <;> simp_all
/-- Cuts of a string. -/
theorem extract_bstr (t : List UInt8) (a b : Nat) : (bstr t).extract a b = bstr ((t.drop a).take (b - a)) := by
  rw [← bstr_eq ((bstr t).extract a b), Lib.extract_data]; rfl
theorem extract_head (t : List UInt8) (b : Nat) : (bstr t).extract 0 b = bstr (t.take b) := by rw [extract_bstr t 0 b]; simp
theorem extract_tail (t : List UInt8) (a : Nat) : (bstr t).extract a t.length = bstr (t.drop a) := by rw [extract_bstr t a _, List.take_of_length_le (by rw [List.length_drop]; omega)]
def strSize : Value → Nat | .string s => s.size | _ => 0
end Go.Proofs.YtnkdcmibafjplaaGreatDoor
