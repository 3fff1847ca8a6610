/-
  A map of values that the call makes: it reads as a Lean function. Over any program.
-/
import Derived.Test.YtnkdcmibafjplaaGreatDoorBase
import Derived.Maps.OwnSet
namespace Go.Proofs.YtnkdcmibafjplaaGreatDoor
open Go.RowKit
set_option linter.unusedVariables false

def vR (v : Value) : Option (DataW Value × List MemPlace) := some (.held v, [])
/-- Block b of w is a map of at most n entries that reads as f; z is the elements' zero value. -/
def VMap (P : Program) (K : TypeId) (z : Value) (w : World) (b n : Nat) (f : Lit → Option Value) : Prop :=
  ∃ D : DataW Value, w.ownsMap P K vR b n D ∧ Maps.IsMap D ∧ ∀ k, WideAt.IsKeyLit k → Maps.has D k = (f k).isSome ∧ D.atKey k (.held z) = .held ((f k).getD z)

section
variable {P : Program} {K E : TypeId} {z : Value} {w w' : World} {b n : Nat} {f : Lit → Option Value}
theorem VMap.made (w : World) : VMap P K z (w.alloc (.map #[] 0)) w.heap.size 0 (fun _ => none) :=
  ⟨.map [], World.ownsMap_made w P K _, Maps.isMap_empty, fun k _ => ⟨rfl, rfl⟩⟩
theorem VMap.lt (h : VMap P K z w b n f) : b < w.heap.size := by obtain ⟨D, h1, _⟩ := h; exact h1.lt
theorem VMap.same {S : Nat → Prop} (h : VMap P K z w b n f) (hs : Same S w w') (hb : S b) : VMap P K z w' b n f := by
  obtain ⟨D, ⟨es, clock, h1, h2⟩, h3⟩ := h
  exact ⟨D, ⟨es, clock, (hs b hb).trans h1, h2⟩, h3⟩
theorem VMap.below {B : Nat} (h : VMap P K z w b n f) (hs : Below B w w') (hb : b < B) : VMap P K z w' b n f := h.same (same_below hs) hb
theorem VMap.grown {row : Option Nat} (h : VMap P K z w b n f) (hg : w.grownBy w' row) (hne : some b ≠ row) : VMap P K z w' b n f := h.same (grown_same hg) ⟨h.lt, hne⟩
theorem VMap.mono (h : VMap P K z w b n f) {m : Nat} (hm : n ≤ m) : VMap P K z w b m f := by
  obtain ⟨D, h1, h3⟩ := h
  exact ⟨D, h1.mono hm, h3⟩
theorem VMap.notRow (h : VMap P K z w b n f) {B : Nat} {e : TypeId} {size k : Nat} {v : Value} {xs : List Value} (hr : w.ownsRow B e size v k xs) : some b ≠ v.ownBlock := by
  obtain ⟨D, ⟨es, clock, h1, h2⟩, h3⟩ := h
  rcases hr.2 with ⟨rfl, _⟩ | ⟨g', cap, cur, rfl, _, hgb, _⟩
  · simp [Value.ownBlock]
  · intro e'
    obtain rfl : b = g' := by simpa [Value.ownBlock] using e'
    have := h1.symm.trans hgb
    simp at this
theorem VMap.look {T : TypeId} (h : VMap P K z w b n f) (KL : Maps.Keyed P K) (ht : P.underlying T = some (.map K E)) (hz : ∀ w, (zeroValue E).run P w = .ok z w) {key : Value} {kl : Lit}
    (hkey : keyOf P K key = some kl) (hk : WideAt.IsKeyLit kl) : (Instr.lookup T (.map (some b)) key false).run P w = .ok ((f kl).getD z) w := by
  obtain ⟨D, h1, _, h3⟩ := h
  obtain ⟨c, ps, hrun, hat⟩ := h1.lookup KL ht (hz w) (zd := .held z) (zp := []) rfl hkey
  rw [(h3 kl hk).2] at hat
  injection hat with hat
  injection hat with hat _
  injection hat with hat
  rw [hrun, hat]
theorem VMap.look_ok {T : TypeId} (h : VMap P K z w b n f) (KL : Maps.Keyed P K) (ht : P.underlying T = some (.map K E)) (hz : ∀ w, (zeroValue E).run P w = .ok z w) {key : Value} {kl : Lit}
    (hkey : keyOf P K key = some kl) (hk : WideAt.IsKeyLit kl) : (Instr.lookup T (.map (some b)) key true).run P w = .ok (.tuple #[(f kl).getD z, .bool (f kl).isSome]) w := by
  obtain ⟨D, h1, _, h3⟩ := h
  obtain ⟨c, ps, hrun, hat⟩ := h1.look_ok KL ht (hz w) (zd := .held z) (zp := []) rfl hkey
  rw [(h3 kl hk).2] at hat
  injection hat with hat
  injection hat with hat _
  injection hat with hat
  rw [hrun, hat, (h3 kl hk).1]
/-- 'm[k] = c'. -/
theorem VMap.put {T : TypeId} (h : VMap P K z w b n f) (KL : Maps.Keyed P K) (ht : P.underlying T = some (.map K E)) (hn : n < maxLen) {key : Value} {kl : Lit} (c : Value)
    (hkey : keyOf P K key = some kl) (hk : WideAt.IsKeyLit kl) : ∃ w', (Instr.mapUpdate T (.map (some b)) key c).run P w = .ok () w' ∧ VMap P K z w' b (n + 1) (fun x => if x.sameKey kl then some c else f x) ∧ w.grownBy w' (some b) := by
  obtain ⟨D, h1, h2, h3⟩ := h
  obtain ⟨w', hrun, h4, h5⟩ := h1.update KL ht hn hkey (d := .held c) (ps := []) rfl
  refine ⟨w', hrun, ⟨_, h4, h2.put _ _, fun x hx => ?_⟩, h5⟩
  by_cases e : x = kl
  · subst e
    dsimp only
    rw [if_pos (WideAt.sameKey_self hk)]
    exact ⟨Maps.has_put_same h2 hk _, Maps.atKey_put_same h2 hk _ _⟩
  · dsimp only
    rw [if_neg (by rw [Maps.sameKey_ne e]; simp), Maps.has_put_other e, Maps.atKey_put_other e]
    exact h3 x hx
end
/-- .. at the operation. -/
theorem vmap_update {P : Program} {K E : TypeId} {z : Value} {w : World} {b n : Nat} {f : Lit → Option Value} {ops : Array Oper} {rest : List Oper} {o : Oper} {a : Act} {Q : Exit → Act → World → Prop} (hg : o.guard = none) (m x v : Operand) (T : TypeId) (hop : o.op = Op.mapUpdate T m x v)
    (h : VMap P K z w b n f) (KL : Maps.Keyed P K) (ht : P.underlying T = some (.map K E)) (hn : n < maxLen) {key : Value} (kl : Lit) (c : Value)
    (hm : a.eval m = .map (some b)) (hx : a.eval x = key) (hv : a.eval v = c) (hkey : keyOf P K key = some kl) (hk : WideAt.IsKeyLit kl)
    (hK : ∀ w', Hid (VMap P K z w' b (n + 1) (fun x => if x.sameKey kl then some c else f x)) → Hid (w.grownBy w' (some b)) → wpList P ops Q rest (a.put o.dst undef) w') : wpList P ops Q (o :: rest) a w := by
  refine wpList_plain hg fun K' hK' => ?_
  obtain ⟨w', hrun, r1, r2⟩ := h.put KL ht hn c hkey hk
  unfold Oper.wp
  simp [execOp, hop, hm, hx, hv, hrun, Result.andThen]
  exact hK' _ _ (hK w' r1 r2)

end Go.Proofs.YtnkdcmibafjplaaGreatDoor
