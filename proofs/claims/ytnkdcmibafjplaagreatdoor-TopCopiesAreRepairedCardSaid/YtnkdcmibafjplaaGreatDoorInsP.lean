/-
  'copy' between rows of elements of several cells, over any program.
-/
import Derived.Test.YtnkdcmibafjplaaGreatDoorBase
import Derived.Laws.CopyRow
import Derived.Laws.CopyOwn
import Derived.Laws.IdiomCopy
import Derived.Lib.Overlaps
import Derived.Laws.Externs
import Derived.Lib.AppendZerosOnto
namespace Go.Proofs.YtnkdcmibafjplaaGreatDoor
open Go.RowKit Go.Lib
set_option linter.unusedVariables false
set_option linter.unusedSimpArgs false

theorem run_copy_rowK {P : Program} (w : World) (dT sT ty elem : TypeId) (size g o dLen dCap : Nat) (a : Addr) (sLen sCap m : Nat) (cur : Array Value) (t : TypeId) (cs : List Value)
    (hu : P.underlying dT = some (.slice elem)) (hs : (P.info? elem).map (·.size) = some size)
    (hg : w.heap[g]? = some (.cells cur t (0, 0))) (hm : Nat.min sLen dLen = m) (hn : cs.length = m * size)
    (hsrc : ∀ j v, cs[j]? = some v → w.cell? (a.add j) = some v) (hfit : o + cs.length ≤ cur.size) (h1 : ∀ v ∈ cs, v.oneCell' = true) :
    (Builtin.copy_ #[dT, sT] ty #[.slice (some ⟨g, o, none⟩) dLen dCap, .slice (some a) sLen sCap]).run P w =
      .ok (goInt m) (w.setRow g (cur.toList.take o ++ cs ++ cur.toList.drop (o + cs.length)).toArray) := by
  have hl := run_loadCells_list (P := P) w a cs hsrc
  have hst := run_storeCells_at P g o t cs 0 cur w hg (by simpa using hfit) h1
  cases hq : P.info? elem with
  | none => simp [hq] at hs
  | some i =>
    have hi : i.size = size := by simpa [hq] using hs
    simp [Builtin.copy_, run_underlying hu, Builtin.lenOf, Builtin.firstCells, sizeOf, typeInfo, hq, hi, hm, ← hn, hl, hst]
theorem wp_copy_runK {P : Program} (w : World) {o : Oper} {a : Act} {K : Act → World → Prop} {Q : Exit → Act → World → Prop} (d s : Operand) (t t' : TypeId)
    (ho : o.op = .call { callee := .builtin .copy, args := #[d, s], argTypes := #[t, t'] }) (v u : Value) (hd : a.eval d = v) (hs : a.eval s = u) {v' : Value} {w' : World}
    (hr : (Builtin.copy_ #[t, t'] o.type #[v, u]).run P w = .ok v' w') (h : K (a.put o.dst v') w') : o.wp P a w K Q := by
  unfold Oper.wp execOp
  simp only [ho, resolve, invoke, builtin, Sem.run_bind, Sem.run_pure, Result.andThen_ok, List.map_toArray, List.map_cons, List.map_nil, hd, hs, hr]
  exact h
theorem wpList_copy_runK {P : Program} (w : World) {ops : Array Oper} {rest : List Oper} {o : Oper} {a : Act} {Q : Exit → Act → World → Prop} (hgd : o.guard = none) (d s : Operand) (t t' : TypeId)
    (ho : o.op = .call { callee := .builtin .copy, args := #[d, s], argTypes := #[t, t'] }) (v u : Value) (hd : a.eval d = v) (hs : a.eval s = u) {v' : Value} {w' : World}
    (hr : (Builtin.copy_ #[t, t'] o.type #[v, u]).run P w = .ok v' w') (h : wpList P ops Q rest (a.put o.dst v') w') : wpList P ops Q (o :: rest) a w :=
  wpList_plain hgd fun _ hK => wp_copy_runK w d s t t' ho v u hd hs hr (hK _ _ h)
theorem step_copy_runK {P : Program} {ops : Array Oper} {o : Oper} {a : Act} {w : World} {K : Act → World → Prop} {Q : Exit → Act → World → Prop} {E : Prop}
    (hg : o.guard = none) (d x : Operand) (dT sT : TypeId) (hop : o.op = Op.call { callee := Callee.builtin Builtin.copy, args := #[d, x], argTypes := #[dT, sT] })
    (v u : Value) (hd : a.eval d = v) (hx : a.eval x = u) {v' : Value} {w' : World} (hr : (Builtin.copy_ #[dT, sT] o.type #[v, u]).run P w = .ok v' w') (hK : K (a.put o.dst v') w') :
    if Region.wanted o (yielded ops a.tmps) = true then Oper.wp P o a w K Q else E := by
  have hw : Region.wanted o (yielded ops a.tmps) = true := by simp [Region.wanted, hg]
  rw [if_pos hw]
  unfold Oper.wp
  simp [execOp, hop, resolve, invoke, builtin, hd, hx, hr, Result.andThen]
  exact hK
theorem wpList_append_runK {P : Program} (w : World) {ops : Array Oper} {rest : List Oper} {o : Oper} {a : Act} {Q : Exit → Act → World → Prop} (hgd : o.guard = none) (d s : Operand) (t t' : TypeId)
    (ho : o.op = .call { callee := .builtin .append, args := #[d, s], argTypes := #[t, t'] }) (v u : Value) (hd : a.eval d = v) (hs : a.eval s = u) {v' : Value} {w' : World}
    (hr : (Builtin.append_ #[t, t'] o.type #[v, u]).run P w = .ok v' w') (h : wpList P ops Q rest (a.put o.dst v') w') : wpList P ops Q (o :: rest) a w := by
  refine wpList_plain hgd fun K hK => ?_
  unfold Oper.wp execOp
  simp only [ho, resolve, invoke, builtin, Sem.run_bind, Sem.run_pure, Result.andThen_ok, List.map_toArray, List.map_cons, List.map_nil, hd, hs, hr]
  exact hK _ _ h
/-- What stands in a row's block, place by place. -/
theorem row_cell {w : World} {g : Nat} {cur : Array Value} {t : TypeId} (h : w.heap[g]? = some (.cells cur t (0, 0))) (o j : Nat) : w.cell? ((⟨g, o, none⟩ : Addr).add j) = cur[o + j]? := by
  have hadd : (⟨g, o, none⟩ : Addr).add j = ⟨g, o + j, none⟩ := by unfold Addr.add; split <;> simp_all
  rw [hadd, cell_of_row _ _ _ _ t (0, 0) h]
/-- The row behind an insertion in place. -/
theorem ins_row (cur xs us : List Value) (n i k : Nat) (hi : i < n) (hx : xs.length = n * k) (hc : cur.take (n * k) = xs) (hu : us.length = k) (hr : (n + 1) * k ≤ cur.length) :
    let c1 := cur.take ((i + 1) * k) ++ (xs.drop (i * k)) ++ cur.drop ((i + 1) * k + (xs.drop (i * k)).length)
    let c2 := c1.take (i * k) ++ us ++ c1.drop (i * k + us.length)
    c2.length = cur.length ∧ c2.take ((n + 1) * k) = xs.take (i * k) ++ us ++ xs.drop (i * k) := by
  have e1 : (n + 1) * k = n * k + k := by rw [Nat.add_mul, Nat.one_mul]
  have e2 : (i + 1) * k = i * k + k := by rw [Nat.add_mul, Nat.one_mul]
  have hik : i * k + k ≤ n * k := by rw [← e2]; exact Nat.mul_le_mul_right _ hi
  have hd : (xs.drop (i * k)).length = n * k - i * k := by rw [List.length_drop, hx]
  have ht : cur.take (i * k) = xs.take (i * k) := by rw [← hc, List.take_take]; congr 1; omega
  dsimp only
  rw [hd, e1, e2, hu]
  rw [e1] at hr
  generalize n * k = nk at *
  generalize i * k = ik at *
  have hA : (cur.take (ik + k)).length = ik + k := by rw [List.length_take]; omega
  have hc1 : (cur.take (ik + k) ++ xs.drop ik ++ cur.drop (ik + k + (nk - ik))).take ik = cur.take ik := by
    rw [List.append_assoc, List.take_append_of_le_length (by omega), List.take_take]
    congr 1; omega
  have hc2 : (cur.take (ik + k) ++ xs.drop ik ++ cur.drop (ik + k + (nk - ik))).drop (ik + k) = xs.drop ik ++ cur.drop (ik + k + (nk - ik)) := by
    rw [List.append_assoc, List.drop_left' hA]
  rw [hc1, hc2, ht]
  have hT : (xs.take ik).length = ik := by rw [List.length_take]; omega
  refine ⟨by simp only [List.length_append, List.length_drop, hT, hu]; omega, ?_⟩
  rw [← List.append_assoc]
  have hl : (xs.take ik ++ us ++ xs.drop ik).length = nk + k := by simp only [List.length_append, hT, hu, hd]; omega
  exact List.take_left' hl
/-- .. in a new block. -/
theorem ins_new (xs us zs : List Value) (n i k : Nat) (hi : i < n) (hx : xs.length = n * k) (hu : us.length = k) (hz : (n + 1 - i) * k ≤ zs.length) :
    let c0 := xs.take (i * k) ++ zs
    let c1 := c0.take (i * k) ++ us ++ c0.drop (i * k + us.length)
    let c2 := c1.take ((i + 1) * k) ++ (xs.drop (i * k)) ++ c1.drop ((i + 1) * k + (xs.drop (i * k)).length)
    c2.length = c0.length ∧ c2.take ((n + 1) * k) = xs.take (i * k) ++ us ++ xs.drop (i * k) := by
  have e1 : (n + 1) * k = n * k + k := by rw [Nat.add_mul, Nat.one_mul]
  have e2 : (i + 1) * k = i * k + k := by rw [Nat.add_mul, Nat.one_mul]
  have e3 : (n + 1 - i) * k = n * k + k - i * k := by rw [Nat.sub_mul, e1]
  have hik : i * k + k ≤ n * k := by rw [← e2]; exact Nat.mul_le_mul_right _ hi
  have hd : (xs.drop (i * k)).length = n * k - i * k := by rw [List.length_drop, hx]
  dsimp only
  rw [hd, e1, e2, hu]
  rw [e3] at hz
  generalize n * k = nk at *
  generalize i * k = ik at *
  have hT : (xs.take ik).length = ik := by rw [List.length_take]; omega
  have ha : (xs.take ik ++ zs).take ik = xs.take ik := List.take_left' hT
  have hb : (xs.take ik ++ zs).drop (ik + k) = zs.drop k := by rw [← List.drop_drop, List.drop_left' hT]
  rw [ha, hb]
  have hTU : (xs.take ik ++ us).length = ik + k := by rw [List.length_append, hT, hu]
  have hc : (xs.take ik ++ us ++ zs.drop k).take (ik + k) = xs.take ik ++ us := List.take_left' hTU
  have hd2 : (xs.take ik ++ us ++ zs.drop k).drop (ik + k + (nk - ik)) = (zs.drop k).drop (nk - ik) := by rw [← List.drop_drop, List.drop_left' hTU]
  rw [hc, hd2]
  refine ⟨by simp only [List.length_append, List.length_drop, hT, hu]; omega, ?_⟩
  have hl : (xs.take ik ++ us ++ xs.drop ik).length = nk + k := by simp only [List.length_append, hTU, hd]; omega
  exact List.take_left' hl
end Go.Proofs.YtnkdcmibafjplaaGreatDoor
