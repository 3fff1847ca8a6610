/-
  What 'Wrong' of care answers, in plain words; the two maps as it reads them.
-/
import Derived.Test.YtbafnemcdhdagaaDoorProg
import Derived.Test.YtbafnemcdhdagaaDoorPkgOf
import Derived.Test.YtbafnemcdhdagaaDoorVMap
namespace Go.Proofs.YtbafnemcdhdagaaDoor
open Go.RowKit
set_option linter.unusedVariables false
set_option linter.unusedSimpArgs false

theorem keyS (x : List UInt8) (h : x.length ≤ 9223372036854775807) : keyOf Tryd.prog 9 (.string (bstr x)) = some (.string x) :=
  WideMaps.keyOf_string_mk Tryd.underlying9 (by rw [bstr_size]; unfold maxLen; omega)
theorem bytes_zero (w : World) : (zeroValue 114).run Tryd.prog w = .ok (.slice none 0 0) w := by kernel_rfl
theorem bool_zero (w : World) : (zeroValue 4).run Tryd.prog w = .ok (.bool false) w := by kernel_rfl
structure Def where
  path : List UInt8
  kind : Int
deriving Inhabited
def defCells (d : Def) : List Value := [.string (bstr d.path), .int .i64 d.kind]
def defRp : Rp Def := (Rp.pair Rp.str (Rp.int .i64)).via fun d => (bstr d.path, d.kind)
theorem def_info : (Tryd.prog.info? 66).map (fun i => (i.zero, i.size, i.bytes)) = some (some (.agg #[.string ⟨#[]⟩, .int .i64 0]), 2, 24) := by kernel_rfl
theorem def_mk {w : World} {S : Nat → Prop} {d : Def} (h1 : d.path.length ≤ maxLen) (h2 : (Lit.int .i64 d.kind).wf = true) : defRp.ok w S (defCells d) d := ⟨[_], [_], rfl, ⟨rfl, h1⟩, ⟨rfl, h2⟩⟩
/-- The bytes of the last file of this path. -/
def haveL (l : List FileR) (p : List UInt8) : Option (List UInt8) := (l.reverse.find? (fun x => decide (x.path = p))).map (·.bytes)
theorem haveL_snoc (l : List FileR) (x : FileR) (p : List UInt8) : haveL (l ++ [x]) p = if x.path = p then some x.bytes else haveL l p := by
  unfold haveL
  rw [List.reverse_append, List.reverse_cons, List.reverse_nil, List.nil_append, List.singleton_append, List.find?_cons]
  by_cases h : x.path = p <;> simp [h]
def defOf (F : List FileR) (x : Ent) : List Def :=
  match haveL F x.path with
  | none => [⟨x.path, 1⟩]
  | some b => if (b.length : Int) ≠ x.size then [⟨x.path, 3⟩] else if digL b ≠ x.digest then [⟨x.path, 4⟩] else []
theorem defOf_none {F : List FileR} {x : Ent} (h : haveL F x.path = none) : defOf F x = [⟨x.path, 1⟩] := by simp [defOf, h]
theorem defOf_size {F : List FileR} {x : Ent} {b : List UInt8} (h : haveL F x.path = some b) (h1 : (b.length : Int) ≠ x.size) : defOf F x = [⟨x.path, 3⟩] := by simp [defOf, h, h1]
theorem defOf_dig {F : List FileR} {x : Ent} {b : List UInt8} (h : haveL F x.path = some b) (h1 : (b.length : Int) = x.size) (h2 : digL b ≠ x.digest) : defOf F x = [⟨x.path, 4⟩] := by simp [defOf, h, h1, h2]
theorem defOf_ok {F : List FileR} {x : Ent} {b : List UInt8} (h : haveL F x.path = some b) (h1 : (b.length : Int) = x.size) (h2 : digL b = x.digest) : defOf F x = [] := by simp [defOf, h, h1, h2]
theorem defOf_len (F : List FileR) (x : Ent) : (defOf F x).length ≤ 1 := by
  unfold defOf
  split
  · simp
  · split
    · simp
    · split <;> simp
def newOf (E : List Ent) (y : FileR) : List Def := if y.path ∈ E.map (·.path) then [] else [⟨y.path, 2⟩]
theorem newOf_len (E : List Ent) (y : FileR) : (newOf E y).length ≤ 1 := by unfold newOf; split <;> simp
def wrongL (E : List Ent) (F : List FileR) : List Def := E.flatMap (defOf F) ++ F.flatMap (newOf E)
def wrFault (n : List UInt8) (E : List Ent) (F : List FileR) : Int := if packFault n E = 0 then filesFault F else packFault n E
theorem flatMap_le1 {α : Type} (f : α → List Def) (hf : ∀ a, (f a).length ≤ 1) : ∀ l : List α, (l.flatMap f).length ≤ l.length
  | [] => by simp
  | a :: l => by rw [List.flatMap_cons, List.length_append, List.length_cons]; have := hf a; have := flatMap_le1 f hf l; omega
theorem take_flat {α : Type} (f : α → List Def) (l : List α) (k : Nat) (h : k < l.length) : (l.take (k + 1)).flatMap f = (l.take k).flatMap f ++ f l[k] := by
  rw [List.take_succ_eq_append_getElem h, List.flatMap_append]; simp
/-- The map of the files' bytes. -/
def FRel (w : World) (f : Lit → Option Value) (l : List FileR) : Prop :=
  ∀ p, match haveL l p with
    | none => f (.string p) = none
    | some b => ∃ v, f (.string p) = some v ∧ (Rp.sl Rp.u8).ok w (· < w.heap.size) [v] b
theorem FRel.nil (w : World) : FRel w (fun _ => none) [] := fun p => rfl
theorem FRel.put {w : World} {f : Lit → Option Value} {l : List FileR} {k : Nat} (hk : k < l.length) (h : FRel w f (l.take k)) {v : Value} (hv : (Rp.sl Rp.u8).ok w (· < w.heap.size) [v] l[k].bytes) :
    FRel w (fun x => if x.sameKey (.string l[k].path) then some v else f x) (l.take (k + 1)) := by
  intro p
  rw [List.take_succ_eq_append_getElem hk, haveL_snoc]
  by_cases e : l[k].path = p
  · subst e
    rw [if_pos rfl]
    exact ⟨v, by dsimp only; rw [if_pos (WideAt.sameKey_self (by trivial))], hv⟩
  · rw [if_neg e]
    dsimp only
    rw [if_neg (by rw [Maps.sameKey_ne (fun h => e (by injection h with h; exact h.symm))]; simp)]
    exact h p
theorem FRel.none {w : World} {f : Lit → Option Value} {l : List FileR} (h : FRel w f l) {p : List UInt8} (hp : haveL l p = none) : f (.string p) = none := by
  have := h p; rw [hp] at this; exact this
theorem FRel.some {w : World} {f : Lit → Option Value} {l : List FileR} (h : FRel w f l) {p b : List UInt8} (hp : haveL l p = some b) : ∃ v, f (.string p) = some v ∧ (Rp.sl Rp.u8).ok w (· < w.heap.size) [v] b := by
  have := h p; rw [hp] at this; exact this
/-- The map of the listed paths. -/
def GRel (g : Lit → Option Value) (l : List Ent) : Prop := ∀ p, (g (.string p)).getD (.bool false) = .bool (decide (p ∈ l.map (·.path)))
theorem GRel.nil : GRel (fun _ => none) [] := fun p => rfl
theorem GRel.put {g : Lit → Option Value} {l : List Ent} {k : Nat} (hk : k < l.length) (h : GRel g (l.take k)) :
    GRel (fun x => if x.sameKey (.string l[k].path) then some (.bool true) else g x) (l.take (k + 1)) := by
  intro p
  rw [List.take_succ_eq_append_getElem hk, List.map_append]
  by_cases e : p = l[k].path
  · subst e
    dsimp only
    rw [if_pos (WideAt.sameKey_self (by trivial))]
    simp
  · dsimp only
    rw [if_neg (by rw [Maps.sameKey_ne (fun h => e (by injection h))]; simp), h p]
    simp [e]
end Go.Proofs.YtbafnemcdhdagaaDoor
