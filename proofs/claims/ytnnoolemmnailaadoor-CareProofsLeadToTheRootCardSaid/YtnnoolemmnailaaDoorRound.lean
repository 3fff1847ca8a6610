/-
  A region within a round of a range over a function, by the plain walk's laws; marks among the deferred calls. Over any program.
-/
import Derived.Test.YtnnoolemmnailaaDoorList
import Derived.RangeFuncNested
import Derived.RangeFuncBound
import Derived.RangeFuncCalls
import Derived.RangeFuncLeaves
import Derived.RangeFuncBox
import Derived.OwnWalkIn
import Derived.TacticsInMore
import Derived.LoopNIn
import Derived.LoopIn
import Derived.OrdersIn
import Derived.Deep.RegionHeld3
namespace Go.Proofs.YtnnoolemmnailaaDoor
open Go.RowKit
set_option linter.unusedVariables false

section
variable {P : Program} {ops : Array Oper} {Q : Exit → Act → World → Prop} {md : Region.Mode}
theorem operWp_round {n l : Nat} {o : Oper} {a : Act} {w : World} {K : Act → World → Prop} (hd : ∀ c, o.op ≠ .defer c) (hQ : ¬ LetsOut Q) (h : o.wp P a w K Q) : o.wpIn (Fence.wide.inRound l) n P a w K Q := by
  unfold Oper.wp at h
  unfold Oper.wpIn
  refine ⟨fun _ _ => trivial, ?_⟩
  rw [Fence.inRound_round, Oper.semAt_some l _ _ hd]
  generalize (execOp a.eval o).run P w = r at *
  cases r with
  | ok x w' =>
    cases x <;> simp only [Oper.upon, Oper.uponIn] at h ⊢ <;>
      first
        | exact h
        | exact ⟨fun h => (by cases h), CallsIn.inRound l (callsIn_wide.2 (Calls.mono h (fun e w'' he => by cases e <;> first | exact he | exact (hQ he).elim)))⟩
        | exact ⟨fun h => (by cases h), fun c cs _ => let ⟨v, w', r, s⟩ := h c cs; ⟨v, w', r, stepsIn_wide.2 s⟩⟩
  | halt x w' => cases x <;> simp only [Oper.upon, Oper.uponIn] at h ⊢ <;> exact h
theorem wpOp_round {n l i : Nat} {a : Act} {w : World} {K : Act → World → Prop} (hd : ∀ o, ops[i]? = some o → ∀ c, o.op ≠ .defer c) (hQ : ¬ LetsOut Q) (h : wpOp P ops Q i K a w) : wpOpIn (Fence.wide.inRound l) n P ops Q i K a w := by
  unfold wpOp at h
  unfold wpOpIn
  cases ho : ops[i]? with
  | none => rw [ho] at h; exact h
  | some o =>
    rw [ho] at h
    simp only at h ⊢
    split
    · rename_i hw
      rw [if_pos hw] at h
      exact operWp_round (hd o ho) hQ (h.resolve_right fun h => hQ h.2)
    · rename_i hw
      rw [if_neg hw] at h
      exact ⟨fun _ _ => trivial, h⟩
theorem wpAny_round {n l : Nat} (hd : ∀ (i : Nat) o, ops[i]? = some o → ∀ c, o.op ≠ .defer c) (hQ : ¬ LetsOut Q) : ∀ (fuel : Nat) (listed : Array Bool) (a : Act) (w : World), wpAny P md ops Q fuel listed a w → wpAnyIn (Fence.wide.inRound l) n P md ops Q fuel listed a w
  | 0, _, _, _, h => h
  | fuel + 1, _, _, _, h => ⟨h.1, fun i hi => wpOp_round (hd i) hQ (wpOp_mono (fun a' w' h' => wpAny_round hd hQ fuel _ a' w' h') (h.2 i hi))⟩
/-- A region that draws its order, within a round. -/
theorem region_round {id n l : Nat} {a : Act} {w : World} {S : World → Prop} (hm : P.follows .mixedOrders = true) (hd : ∀ (i : Nat) o, ops[i]? = some o → ∀ c, o.op ≠ .defer c) (hQ : ¬ LetsOut Q) (hS : S w.drew)
    (h : S w.drew → wpAnyH P .any ops Q S ops.size (Array.replicate ops.size false) a w.drew) : (Code.region id ops true).wpIn (Fence.wide.inRound l) n P Q a w :=
  wpIn_region_any hm (wpAny_round hd hQ _ _ _ _ (wpAny_of_held _ _ _ _ (h hS)))
def notDefer (o : Oper) : Bool := match o.op with | .defer _ => false | _ => true
theorem notDefer_all {l : List Oper} (h : l.all notDefer = true) : ∀ (i : Nat) o, l.toArray[i]? = some o → ∀ c, o.op ≠ .defer c := fun i o ho c e => by
  have := List.all_eq_true.1 h o (by simp at ho; exact List.mem_of_getElem? ho)
  rw [notDefer, e] at this
  exact Bool.noConfusion this
end

/-! ### Marks among the deferred calls -/
def markOf (d : Nat) : Deferred := { target := .collected d, args := #[] }
/-- Block b holds cells. -/
def CellB (w : World) (b : Nat) : Prop := ∃ o : Obj, w.heap[b]? = some o ∧ o.isCells = true
theorem CellB.kept {w w' : World} {row : Option Nat} (hg : w.grownBy w' row) {b : Nat} (h : CellB w b) (hr : row ≠ some b) : CellB w' b := by
  obtain ⟨o, ho, hc⟩ := h
  exact ⟨o, (hg.block b (Array.getElem?_eq_some_iff.1 ho).1 (fun e => hr e.symm)).trans ho, hc⟩
theorem CellB.lt {w : World} {b : Nat} (h : CellB w b) : b < w.heap.size := by
  obtain ⟨o, ho, _⟩ := h
  exact (Array.getElem?_eq_some_iff.1 ho).1
theorem leaves_marks {P : Program} {F : Fence} {n : Nat} {fn : Func} {tmps : Array Value} {R : Ending → World → Prop} {B : Nat} : ∀ (ds : List Nat) (w : World), ds.Nodup → (∀ d ∈ ds, B ≤ d ∧ w.heap[d]? = some (.deferred (some []))) →
    (∀ w', Same (CellB w) w w' → Below B w w' → LeavesIn F n P fn tmps R [] .returning w') → LeavesInM F n P fn tmps R (ds.map markOf) .returning w
  | [], w, _, _, h => h w (Same.refl _ _) (Below.refl _ _)
  | d :: ds, w, hn, hd, h => by
    have hk := (hd d (by simp)).2
    have hB := (hd d (by simp)).1
    have hne : ∀ x ∈ ds, x ≠ d := fun x hx e => (List.nodup_cons.1 hn).1 (e ▸ hx)
    have hsame : Same (CellB w) w (w.putObj d (.deferred none)) := fun b hb => World.putObj_heap_other (fun e => by
      obtain ⟨o, ho, hc⟩ := hb
      rw [e, hk] at ho; cases ho; cases hc)
    have hbel : Below B w (w.putObj d (.deferred none)) := (Below.refl B w).grown (grownBy_putObj' w d (.deferred none)) (by have := (Array.getElem?_eq_some_iff.1 hk).1; omega) (fun k e => by cases e; exact hB)
    refine ⟨by simp, .inl ⟨d, _, rfl, run_takeDeferred hk, ?_⟩⟩
    refine leaves_marks ds _ (List.nodup_cons.1 hn).2 (fun x hx => ⟨(hd x (by simp [hx])).1, (World.putObj_heap_other (hne x hx)).trans (hd x (by simp [hx])).2⟩) (fun w' hs hb => ?_)
    refine h w' (hsame.trans (hs.sub fun b hb => ?_)) (hbel.trans hb)
    obtain ⟨o, ho, hc⟩ := hb
    exact ⟨o, (hsame b ⟨o, ho, hc⟩).trans ho, hc⟩

/-! ### Rows of rows: what they lead to lies in cells -/
section
variable {α : Type} {R : Rp α} {E : TypeId} {B : Nat} {w : World} {v : Value} {l : List α}
def RowsC (R : Rp α) (E : TypeId) (B : Nat) (w : World) (v : Value) (l : List α) : Prop :=
  ∃ xs, w.ownsRow B E R.sz v l.length xs ∧ ∀ (k : Nat) (h : k < l.length), R.ok w (fun b => CellB w b ∧ v.ownBlock ≠ some b) ((xs.drop (k * R.sz)).take R.sz) l[k]
theorem RowsC.nil (R : Rp α) (E : TypeId) (B : Nat) (w : World) : RowsC R E B w (.slice none 0 0) [] := ⟨[], World.ownsRow_nil w B E R.sz, fun k h => absurd h (by simp)⟩
theorem RowsC.kept {w' : World} (h : RowsC R E B w v l) (hg : w.grownBy w' none) : RowsC R E B w' v l := by
  obtain ⟨xs, h1, h2⟩ := h
  refine ⟨xs, h1.kept hg (by cases hv : v.ownBlock <;> simp), fun k hk => R.keep (h2 k hk) (fun b hb => hg.block b hb.1.lt (by simp)) (fun b hb => ⟨hb.1.kept hg (by simp), hb.2⟩)⟩
theorem RowsC.form (h : RowsC R E B w v l) : ∃ A c, v = .slice A l.length c ∧ l.length ≤ c ∧ c ≤ maxLen ∧ (∀ g, v.ownBlock = some g → B ≤ g ∧ g < w.heap.size) := by
  obtain ⟨xs, h1, _⟩ := h
  exact own_form h1
theorem RowsC.open_ (h : RowsC R E B w v l) (hsz : 0 < R.sz) :
    ∃ xs, w.ownsRow B E R.sz v l.length xs ∧ ∀ (wA w' : World) (g c : Nat) (a : α) (us : List Value), w.grownBy wA none → R.ok wA (fun b => CellB wA b ∧ v.ownBlock ≠ some b) us a → wA.grownBy w' v.ownBlock →
      w'.ownsRow B E R.sz (.slice (some ⟨g, 0, none⟩) (l.length + 1) c) (l.length + 1) (xs ++ us) → (v.ownBlock = some g ∨ wA.heap.size ≤ g) → RowsC R E B w' (.slice (some ⟨g, 0, none⟩) (l.length + 1) c) (l ++ [a]) := by
  obtain ⟨xs, h1, h2⟩ := h
  refine ⟨xs, h1, fun wA w' g c a us hA hu hw hown hloc => ⟨xs ++ us, by rw [List.length_append, List.length_singleton]; exact hown, fun k hk => ?_⟩⟩
  have hxl : xs.length = l.length * R.sz := h1.1
  have hul : us.length = R.sz := R.len hu
  have hS : ∀ b, (CellB wA b ∧ v.ownBlock ≠ some b) → (CellB w' b ∧ (Value.slice (some ⟨g, 0, none⟩) (l.length + 1) c).ownBlock ≠ some b) := fun b hb =>
    ⟨hb.1.kept hw hb.2, fun e => by
      have e1 : g = b := Option.some.inj e
      rcases hloc with h | h
      · exact hb.2 (by rw [h, e1])
      · have := hb.1.lt; omega⟩
  have hsame : Same (fun b => CellB wA b ∧ v.ownBlock ≠ some b) wA w' := fun b hb => hw.block b hb.1.lt (fun e => hb.2 e.symm)
  by_cases hkl : k < l.length
  · have e1 : (l ++ [a])[k] = l[k] := List.getElem_append_left hkl
    have hm : k * R.sz + R.sz ≤ l.length * R.sz := by rw [← Nat.succ_mul]; exact Nat.mul_le_mul_right _ hkl
    rw [e1, List.drop_append_of_le_length (by omega), List.take_append_of_le_length (by rw [List.length_drop]; omega)]
    exact R.keep (R.keep (h2 k hkl) (fun b hb => hA.block b hb.1.lt (by simp)) (fun b hb => ⟨hb.1.kept hA (by simp), hb.2⟩)) hsame hS
  · have hke : k = l.length := by rw [List.length_append, List.length_singleton] at hk; omega
    subst hke
    have e1 : (l ++ [a])[l.length] = a := by simp
    rw [e1, ← hxl, List.drop_left, List.take_of_length_le (by omega)]
    exact R.keep hu hsame hS
theorem RowsC.read {w' : World} (h : RowsC R E B w v l) (hsz : 0 < R.sz) (hs : Same (CellB w) w w') (hl : w.heap.size ≤ w'.heap.size) : (Rp.sl R).ok w' (· < w'.heap.size) [v] l := by
  obtain ⟨xs, h1, h2⟩ := h
  have hr := Rp.of_own (S := CellB w) hsz h1 (fun g hg => ?_) (fun k hk => R.sub (h2 k hk) (fun b hb => hb.1))
  · exact (Rp.sl R).keep hr hs (fun b hb => Nat.lt_of_lt_of_le hb.lt hl)
  · rcases h1.2 with ⟨rfl, _⟩ | ⟨g', cap, cur, rfl, _, hgb, _⟩
    · cases hg
    · obtain rfl : g' = g := by simpa [Value.ownBlock] using hg
      exact ⟨_, hgb, rfl⟩
end
/-- A row that the call owns lies in cells. -/
theorem own_cellB {w : World} {B : Nat} {e : TypeId} {size n : Nat} {v : Value} {xs : List Value} (h : w.ownsRow B e size v n xs) {g : Nat} (hg : v.ownBlock = some g) : CellB w g := by
  rcases h.2 with ⟨rfl, _⟩ | ⟨g', cap, cur, rfl, _, hgb, _⟩
  · cases hg
  · obtain rfl : g' = g := by simpa [Value.ownBlock] using hg
    exact ⟨_, hgb, rfl⟩
end Go.Proofs.YtnnoolemmnailaaDoor
