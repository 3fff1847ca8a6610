/-
  slices.Clone of rights; append of a row that lies in a block.
-/
import Derived.Test.YtdljgjlkfihjdaaGreatDoorRights
namespace Go.Proofs.YtdljgjlkfihjdaaGreatDoor
open Go.RowKit
set_option linter.unusedVariables false
set_option linter.unusedSimpArgs false

section
variable {P : Program} {ops : Array Oper} {o : Oper} {a : Act} {Q : Exit → Act → World → Prop}
/-- 'append(v, u..)' in a region that draws its order, where the row u.. lies whole in block r. -/
theorem step_app_blk {K : Act → World → Prop} {E' : Prop} {W : World} (hgd : o.guard = none) (s x : Operand) (t : TypeId)
    (ho : o.op = .call { callee := .builtin .append, args := #[s, x], argTypes := #[t, t] })
    (e : TypeId) (z : Value) (size bytes : Nat) (ht : P.underlying t = some (.slice e)) (hinfo : (P.info? e).map (fun i => (i.zero, i.size, i.bytes)) = some (some z, size, bytes))
    (hzs : z.cells.size = size) (hsz : 0 < size)
    {B : Nat} {v : Value} {n m : Nat} {xs : List Value} (us : List Value) {r : Nat} (hblk : Blk W r e us) (hown : W.ownsRow B e size v n xs) (hB : B ≤ W.heap.size)
    (hs : a.eval s = v) (hx : a.eval x = .slice (some ⟨r, 0, none⟩) m m) (hl : us.length = m * size) (hu : ∀ u ∈ us, u.oneCell' = true)
    (hn : n + m ≤ maxLen) (hbytes : (n + m) * bytes ≤ 140737488355328)
    (h : ∀ v' w', Hid (w'.ownsRow B e size v' (n + m) (xs ++ us)) → Hid (W.grownBy w' v.ownBlock) → K (a.put o.dst v') w') :
    if Region.wanted o (yielded ops a.tmps) = true then Oper.wp P o a W K Q else E' := by
  have hw : Region.wanted o (yielded ops a.tmps) = true := by simp [Region.wanted, hgd]
  rw [if_pos hw]
  obtain ⟨i, hi, hz, h1, h2⟩ := info_parts hinfo
  refine wp_append_own W s x t ho B e i z size bytes ht hi hz h1 h2 hzs hsz v n xs hs hown ⟨r, 0, none⟩ m m us hx hl (fun j u hj => ?_) hu hn hbytes hB (fun v' w' h1 h2 _ => h v' w' h1 h2)
  have hadd : (⟨r, 0, none⟩ : Addr).add j = ⟨r, j, none⟩ := by unfold Addr.add; split <;> simp_all
  rw [hadd, hblk.cell j]; exact hj
end
theorem rgt_info : (Tryz.prog.info? 38).map (fun i => (i.zero, i.size, i.bytes)) = some (some (.agg #[.string ⟨#[]⟩, .string ⟨#[]⟩, .int .i64 0, .int .i64 0, .int .i64 0, .int .i64 0, .int .i64 0, .int .i64 0, .string ⟨#[]⟩]), 9, 96) := by kernel_rfl
theorem rgt_flat (l : List Rgt) (k : Nat) (h : k < l.length) : ((l.flatMap rgtCells).drop (k * 9)).take 9 = rgtCells l[k] := flat_at (f := rgtCells) (sz := 9) (fun _ => rfl) l k h
theorem rgt_flat_len (l : List Rgt) : (l.flatMap rgtCells).length = l.length * 9 := flat_len (f := rgtCells) (sz := 9) (fun _ => rfl) l
theorem rgt_flat_at (l : List Rgt) (k j : Nat) (h : k < l.length) (hj : j < 9) : (l.flatMap rgtCells)[k * 9 + j]? = (rgtCells l[k])[j]? := by
  rw [← rgt_flat l k h, List.getElem?_take_of_lt hj, List.getElem?_drop]
end Go.Proofs.YtdljgjlkfihjdaaGreatDoor
