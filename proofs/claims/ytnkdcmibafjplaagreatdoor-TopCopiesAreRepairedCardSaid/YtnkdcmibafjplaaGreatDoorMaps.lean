/-
  A map of integers that the call makes: it reads as a Lean function. Over any program.
-/
import Derived.Test.YtnkdcmibafjplaaGreatDoorBase
import Derived.Maps.OwnSet
namespace Go.Proofs.YtnkdcmibafjplaaGreatDoor
open Go.RowKit
set_option linter.unusedVariables false

/-- Block b of w is a map of at most n entries that reads as f. -/
def IMap (P : Program) (K E : TypeId) (q : IntKind) (w : World) (b n : Nat) (f : Lit → Option Int) : Prop :=
  ∃ D : DataW Unit, w.ownsMap P K (plainElem P E) b n D ∧ Maps.IsMap D ∧ ∀ k, WideAt.IsKeyLit k → Maps.has D k = (f k).isSome ∧ D.atKey k (.lit (.int q 0)) = .lit (.int q ((f k).getD 0))

section
variable {P : Program} {K E : TypeId} {q : IntKind} {w w' : World} {b n : Nat} {f : Lit → Option Int}
theorem IMap.made (w : World) : IMap P K E q (w.alloc (.map #[] 0)) w.heap.size 0 (fun _ => none) :=
  ⟨.map [], World.ownsMap_made w P K _, Maps.isMap_empty, fun k _ => ⟨rfl, rfl⟩⟩
theorem IMap.lt (h : IMap P K E q w b n f) : b < w.heap.size := by obtain ⟨D, h1, _⟩ := h; exact h1.lt
theorem IMap.same {S : Nat → Prop} (h : IMap P K E q w b n f) (hs : Same S w w') (hb : S b) : IMap P K E q w' b n f := by
  obtain ⟨D, ⟨es, clock, h1, h2⟩, h3⟩ := h
  exact ⟨D, ⟨es, clock, (hs b hb).trans h1, h2⟩, h3⟩
theorem IMap.below {B : Nat} (h : IMap P K E q w b n f) (hs : Below B w w') (hb : b < B) : IMap P K E q w' b n f := h.same (same_below hs) hb
theorem IMap.grown {row : Option Nat} (h : IMap P K E q w b n f) (hg : w.grownBy w' row) (hne : some b ≠ row) : IMap P K E q w' b n f := h.same (grown_same hg) ⟨h.lt, hne⟩
theorem IMap.mono (h : IMap P K E q w b n f) {m : Nat} (hm : n ≤ m) : IMap P K E q w b m f := by
  obtain ⟨D, h1, h3⟩ := h
  exact ⟨D, h1.mono hm, h3⟩
theorem IMap.look {T : TypeId} (h : IMap P K E q w b n f) (KL : Maps.Keyed P K) (ht : P.underlying T = some (.map K E)) (he : P.underlying E = some (.int q)) (hz : ∀ w, (zeroValue E).run P w = .ok (.int q 0) w) {key : Value} {kl : Lit}
    (hkey : keyOf P K key = some kl) (hk : WideAt.IsKeyLit kl) : (Instr.lookup T (.map (some b)) key false).run P w = .ok (.int q ((f kl).getD 0)) w := by
  obtain ⟨D, h1, _, h3⟩ := h
  obtain ⟨c, hrun, hat, _⟩ := h1.lookup_int KL ht he (hz w) hkey
  rw [(h3 kl hk).2] at hat
  injection hat with hat
  injection hat with _ hat
  rw [hrun, ← hat]
theorem IMap.look_ok {T : TypeId} (h : IMap P K E q w b n f) (KL : Maps.Keyed P K) (ht : P.underlying T = some (.map K E)) (he : P.underlying E = some (.int q)) (hz : ∀ w, (zeroValue E).run P w = .ok (.int q 0) w) {key : Value} {kl : Lit}
    (hkey : keyOf P K key = some kl) (hk : WideAt.IsKeyLit kl) : (Instr.lookup T (.map (some b)) key true).run P w = .ok (.tuple #[.int q ((f kl).getD 0), .bool (f kl).isSome]) w := by
  obtain ⟨D, h1, _, h3⟩ := h
  obtain ⟨v, ps, hrun, hv⟩ := h1.look_ok KL ht (hz w) (plainElem_int he (by cases q <;> decide)) hkey
  obtain ⟨c, rfl, hc, _⟩ := plainElem_int_inv he hv
  have hat := congrArg Prod.fst hc
  simp only [] at hat
  rw [(h3 kl hk).2] at hat
  injection hat with hat
  injection hat with _ hat
  rw [hrun, ← hat, (h3 kl hk).1]
/-- 'm[k] = c'. -/
theorem IMap.put {T : TypeId} (h : IMap P K E q w b n f) (KL : Maps.Keyed P K) (ht : P.underlying T = some (.map K E)) (he : P.underlying E = some (.int q)) (hn : n < maxLen) {key : Value} {kl : Lit} {c : Int} (hc : (Lit.int q c).wf = true)
    (hkey : keyOf P K key = some kl) (hk : WideAt.IsKeyLit kl) : ∃ w', (Instr.mapUpdate T (.map (some b)) key (.int q c)).run P w = .ok () w' ∧ IMap P K E q w' b (n + 1) (fun x => if x.sameKey kl then some c else f x) ∧ w.grownBy w' (some b) := by
  obtain ⟨D, h1, h2, h3⟩ := h
  obtain ⟨w', hrun, h4, h5⟩ := h1.update KL ht hn hkey (plainElem_int he hc)
  refine ⟨w', hrun, ⟨_, h4, h2.put _ _, fun x hx => ?_⟩, h5⟩
  by_cases e : x = kl
  · subst e
    dsimp only
    rw [if_pos (WideAt.sameKey_self hk)]
    exact ⟨Maps.has_put_same h2 hk _, Maps.atKey_put_same h2 hk _ _⟩
  · dsimp only
    rw [if_neg (by rw [Maps.sameKey_ne e]; simp), Maps.has_put_other e, Maps.atKey_put_other e]
    exact h3 x hx
end
/-- .. at the operation. -/
theorem imap_update {P : Program} {K E : TypeId} {q : IntKind} {w : World} {b n : Nat} {f : Lit → Option Int} {ops : Array Oper} {rest : List Oper} {o : Oper} {a : Act} {Q : Exit → Act → World → Prop} (hg : o.guard = none) (m x v : Operand) (T : TypeId) (hop : o.op = Op.mapUpdate T m x v)
    (h : IMap P K E q w b n f) (KL : Maps.Keyed P K) (ht : P.underlying T = some (.map K E)) (he : P.underlying E = some (.int q)) (hn : n < maxLen) {key : Value} (kl : Lit) {c : Int}
    (hm : a.eval m = .map (some b)) (hx : a.eval x = key) (hv : a.eval v = .int q c) (hc : (Lit.int q c).wf = true) (hkey : keyOf P K key = some kl) (hk : WideAt.IsKeyLit kl)
    (hK : ∀ w', Hid (IMap P K E q w' b (n + 1) (fun x => if x.sameKey kl then some c else f x)) → Hid (w.grownBy w' (some b)) → wpList P ops Q rest (a.put o.dst undef) w') : wpList P ops Q (o :: rest) a w := by
  refine wpList_plain hg fun K' hK' => ?_
  obtain ⟨w', hrun, r1, r2⟩ := h.put KL ht he hn hc hkey hk
  unfold Oper.wp
  simp [execOp, hop, hm, hx, hv, hrun, Result.andThen]
  exact hK' _ _ (hK w' r1 r2)

end Go.Proofs.YtnkdcmibafjplaaGreatDoor
