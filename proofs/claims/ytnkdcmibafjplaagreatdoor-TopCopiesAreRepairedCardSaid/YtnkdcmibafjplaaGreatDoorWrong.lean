/-
  What 'Wrong' of care answers, in plain words; the two maps as it reads them.
  slices.SortFunc at defects: the laying of the shelf's structure.
  slices.SortFunc at defects, by their paths.
  'Wrong' of care.
-/
import Derived.Test.YtnkdcmibafjplaaGreatDoorProg
import Derived.Test.YtnkdcmibafjplaaGreatDoorPkgOf
import Derived.Test.YtnkdcmibafjplaaGreatDoorVMap
import Derived.Test.YtnkdcmibafjplaaGreatDoorHeld
import Derived.Shelf.SlSortCmp.WholeK
import Derived.Test.YtnkdcmibafjplaaGreatDoorVCount
import Derived.Test.YtnkdcmibafjplaaGreatDoorCopies
import Derived.Shelf.SlSortCmp.NoneTotal
import Derived.Sort.OwnSorted
import Derived.Deep.Onto
import Derived.Deep.RegionHeld3
namespace Go.Proofs.YtnkdcmibafjplaaGreatDoor
open Go.RowKit
set_option linter.unusedVariables false
set_option linter.unusedSimpArgs false

theorem keyS (x : List UInt8) (h : x.length ≤ 9223372036854775807) : keyOf Tryz.prog 9 (.string (bstr x)) = some (.string x) :=
  WideMaps.keyOf_string_mk Tryz.underlying9 (by rw [bstr_size]; unfold maxLen; omega)
theorem bytes_zero (w : World) : (zeroValue 33).run Tryz.prog w = .ok (.slice none 0 0) w := by kernel_rfl
theorem bool_zero (w : World) : (zeroValue 4).run Tryz.prog w = .ok (.bool false) w := by kernel_rfl
structure Def where
  path : List UInt8
  kind : Int
deriving Inhabited
def defCells (d : Def) : List Value := [.string (bstr d.path), .int .i64 d.kind]
def defRp : Rp Def := (Rp.pair Rp.str (Rp.int .i64)).via fun d => (bstr d.path, d.kind)
theorem def_info : (Tryz.prog.info? 120).map (fun i => (i.zero, i.size, i.bytes)) = some (some (.agg #[.string ⟨#[]⟩, .int .i64 0]), 2, 24) := by kernel_rfl
theorem def_mk {w : World} {S : Nat → Prop} {d : Def} (h1 : d.path.length ≤ maxLen) (h2 : (Lit.int .i64 d.kind).wf = true) : defRp.ok w S (defCells d) d := ⟨[_], [_], rfl, ⟨rfl, h1⟩, ⟨rfl, h2⟩⟩
/-- The bytes of the last file of this path. -/
def haveL (l : List FileR) (p : List UInt8) : Option (List UInt8) := (l.reverse.find? (fun x => decide (x.path = p))).map (·.bytes)
theorem haveL_snoc (l : List FileR) (x : FileR) (p : List UInt8) : haveL (l ++ [x]) p = if x.path = p then some x.bytes else haveL l p := by
  unfold haveL
  rw [List.reverse_append, List.reverse_cons, List.reverse_nil, List.nil_append, List.singleton_append, List.find?_cons]
  by_cases h : x.path = p <;> simp [h]
def defOf (F : List FileR) (x : Ent) : List Def :=
  match haveL F x.path with
  | none => [⟨x.path, 1⟩]
  | some b => if (b.length : Int) ≠ x.size then [⟨x.path, 3⟩] else if digL b ≠ x.digest then [⟨x.path, 4⟩] else []
theorem defOf_none {F : List FileR} {x : Ent} (h : haveL F x.path = none) : defOf F x = [⟨x.path, 1⟩] := by simp [defOf, h]
theorem defOf_size {F : List FileR} {x : Ent} {b : List UInt8} (h : haveL F x.path = some b) (h1 : (b.length : Int) ≠ x.size) : defOf F x = [⟨x.path, 3⟩] := by simp [defOf, h, h1]
theorem defOf_dig {F : List FileR} {x : Ent} {b : List UInt8} (h : haveL F x.path = some b) (h1 : (b.length : Int) = x.size) (h2 : digL b ≠ x.digest) : defOf F x = [⟨x.path, 4⟩] := by simp [defOf, h, h1, h2]
theorem defOf_ok {F : List FileR} {x : Ent} {b : List UInt8} (h : haveL F x.path = some b) (h1 : (b.length : Int) = x.size) (h2 : digL b = x.digest) : defOf F x = [] := by simp [defOf, h, h1, h2]
theorem defOf_len (F : List FileR) (x : Ent) : (defOf F x).length ≤ 1 := by
  unfold defOf
  split
  · simp
  · split
    · simp
    · split <;> simp
def newOf (E : List Ent) (y : FileR) : List Def := if y.path ∈ E.map (·.path) then [] else [⟨y.path, 2⟩]
theorem newOf_len (E : List Ent) (y : FileR) : (newOf E y).length ≤ 1 := by unfold newOf; split <;> simp
def wrongL (E : List Ent) (F : List FileR) : List Def := E.flatMap (defOf F) ++ F.flatMap (newOf E)
def wrFault (n : List UInt8) (E : List Ent) (F : List FileR) : Int := if packFault n E = 0 then filesFault F else packFault n E
theorem flatMap_le1 {α : Type} (f : α → List Def) (hf : ∀ a, (f a).length ≤ 1) : ∀ l : List α, (l.flatMap f).length ≤ l.length
  | [] => by simp
  | a :: l => by rw [List.flatMap_cons, List.length_append, List.length_cons]; have := hf a; have := flatMap_le1 f hf l; omega
theorem take_flat {α : Type} (f : α → List Def) (l : List α) (k : Nat) (h : k < l.length) : (l.take (k + 1)).flatMap f = (l.take k).flatMap f ++ f l[k] := by
  rw [List.take_succ_eq_append_getElem h, List.flatMap_append]; simp
/-- The map of the files' bytes. -/
def FRel (w : World) (f : Lit → Option Value) (l : List FileR) : Prop :=
  ∀ p, match haveL l p with
    | none => f (.string p) = none
    | some b => ∃ v, f (.string p) = some v ∧ (Rp.sl Rp.u8).ok w (· < w.heap.size) [v] b
theorem FRel.nil (w : World) : FRel w (fun _ => none) [] := fun p => rfl
theorem FRel.put {w : World} {f : Lit → Option Value} {l : List FileR} {k : Nat} (hk : k < l.length) (h : FRel w f (l.take k)) {v : Value} (hv : (Rp.sl Rp.u8).ok w (· < w.heap.size) [v] l[k].bytes) :
    FRel w (fun x => if x.sameKey (.string l[k].path) then some v else f x) (l.take (k + 1)) := by
  intro p
  rw [List.take_succ_eq_append_getElem hk, haveL_snoc]
  by_cases e : l[k].path = p
  · subst e
    rw [if_pos rfl]
    exact ⟨v, by dsimp only; rw [if_pos (WideAt.sameKey_self (by trivial))], hv⟩
  · rw [if_neg e]
    dsimp only
    rw [if_neg (by rw [Maps.sameKey_ne (fun h => e (by injection h with h; exact h.symm))]; simp)]
    exact h p
theorem FRel.none {w : World} {f : Lit → Option Value} {l : List FileR} (h : FRel w f l) {p : List UInt8} (hp : haveL l p = none) : f (.string p) = none := by
  have := h p; rw [hp] at this; exact this
theorem FRel.some {w : World} {f : Lit → Option Value} {l : List FileR} (h : FRel w f l) {p b : List UInt8} (hp : haveL l p = some b) : ∃ v, f (.string p) = some v ∧ (Rp.sl Rp.u8).ok w (· < w.heap.size) [v] b := by
  have := h p; rw [hp] at this; exact this
/-- The map of the listed paths. -/
def GRel (g : Lit → Option Value) (l : List Ent) : Prop := ∀ p, (g (.string p)).getD (.bool false) = .bool (decide (p ∈ l.map (·.path)))
theorem GRel.nil : GRel (fun _ => none) [] := fun p => rfl
theorem GRel.put {g : Lit → Option Value} {l : List Ent} {k : Nat} (hk : k < l.length) (h : GRel g (l.take k)) :
    GRel (fun x => if x.sameKey (.string l[k].path) then some (.bool true) else g x) (l.take (k + 1)) := by
  intro p
  rw [List.take_succ_eq_append_getElem hk, List.map_append]
  by_cases e : p = l[k].path
  · subst e
    dsimp only
    rw [if_pos (WideAt.sameKey_self (by trivial))]
    simp
  · dsimp only
    rw [if_neg (by rw [Maps.sameKey_ne (fun h => e (by injection h))]; simp), h p]
    simp [e]
end Go.Proofs.YtnkdcmibafjplaaGreatDoor
namespace Go.Proofs.YtnkdcmibafjplaaGreatDoor
open Go.RowKit
set_option linter.unusedVariables false
set_option linter.unusedSimpArgs false

def defSort_ren : Go.Shelf.Ren := ⟨fun | 6 => 44 | 14 => 77 | 15 => 78 | 20 => 113 | 21 => 114 | 22 => 115 | 23 => 116 | 24 => 117 | 25 => 118 | 26 => 119 | 27 => 120 | 28 => 121 | 29 => 122 | 46 => 160 | 47 => 161 | 48 => 162 | 49 => 163 | 50 => 164 | 57 => 190 | n => n, fun | 0 => 0 | 3 => 3 | 4 => 4 | 5 => 5 | 9 => 9 | 22 => 67 | 24 => 120 | 25 => 123 | 39 => 154 | 45 => 194 | 46 => 195 | 50 => 111 | 53 => 201 | 55 => 95 | 66 => 226 | 70 => 230 | 76 => 246 | 77 => 247 | n => n, fun | n => n⟩
theorem defSort : SlLaysF0.n6 Tryz.prog defSort_ren := {
  mixed := by kernel_rfl,
  f6 := ⟨Tryz.f44.name, by decide, Tryz.func44.trans (congrArg some (by kernel_rfl))⟩,
  f14 := ⟨Tryz.f77.name, by decide, Tryz.func77.trans (congrArg some (by kernel_rfl))⟩,
  f15 := Tryz.func78.trans (congrArg some (by kernel_rfl)),
  f20 := ⟨Tryz.f113.name, by decide, Tryz.func113.trans (congrArg some (by kernel_rfl))⟩,
  f21 := ⟨Tryz.f114.name, by decide, Tryz.func114.trans (congrArg some (by kernel_rfl))⟩,
  f22 := ⟨Tryz.f115.name, by decide, Tryz.func115.trans (congrArg some (by kernel_rfl))⟩,
  f23 := ⟨Tryz.f116.name, by decide, Tryz.func116.trans (congrArg some (by kernel_rfl))⟩,
  f24 := ⟨Tryz.f117.name, by decide, Tryz.func117.trans (congrArg some (by kernel_rfl))⟩,
  f25 := ⟨Tryz.f118.name, by decide, Tryz.func118.trans (congrArg some (by kernel_rfl))⟩,
  f26 := ⟨Tryz.f119.name, by decide, Tryz.func119.trans (congrArg some (by kernel_rfl))⟩,
  f27 := ⟨Tryz.f120.name, by decide, Tryz.func120.trans (congrArg some (by kernel_rfl))⟩,
  f28 := Tryz.func121.trans (congrArg some (by kernel_rfl)),
  f29 := Tryz.func122.trans (congrArg some (by kernel_rfl)),
  f46 := ⟨Tryz.f160.name, by decide, Tryz.func160.trans (congrArg some (by kernel_rfl))⟩,
  f47 := Tryz.func161.trans (congrArg some (by kernel_rfl)),
  f48 := Tryz.func162.trans (congrArg some (by kernel_rfl)),
  f49 := ⟨Tryz.f163.name, by decide, Tryz.func163.trans (congrArg some (by kernel_rfl))⟩,
  f50 := ⟨Tryz.f164.name, by decide, Tryz.func164.trans (congrArg some (by kernel_rfl))⟩,
  f57 := ⟨Tryz.f190.name, by decide, Tryz.func190.trans (congrArg some (by kernel_rfl))⟩,
  t0 := Tryz.underlying0,
  a0 := Tryz.isAgg0,
  z0 := Tryz.sizeOf0,
  v0 := Tryz.zeroValue0,
  t3 := Tryz.underlying3,
  a3 := Tryz.isAgg3,
  z3 := Tryz.sizeOf3,
  v3 := Tryz.zeroValue3,
  t4 := Tryz.underlying4,
  a4 := Tryz.isAgg4,
  z4 := Tryz.sizeOf4,
  v4 := Tryz.zeroValue4,
  t5 := Tryz.underlying5,
  a5 := Tryz.isAgg5,
  z5 := Tryz.sizeOf5,
  v5 := Tryz.zeroValue5,
  t9 := Tryz.underlying9,
  a9 := Tryz.isAgg9,
  z9 := Tryz.sizeOf9,
  v9 := Tryz.zeroValue9,
  t22 := Tryz.underlying67,
  a22 := Tryz.isAgg67,
  z22 := Tryz.sizeOf67,
  v22 := Tryz.zeroValue67,
  t25 := Tryz.underlying123,
  a25 := Tryz.isAgg123,
  z25 := Tryz.sizeOf123,
  v25 := Tryz.zeroValue123,
  t39 := Tryz.underlying154,
  a39 := Tryz.isAgg154,
  z39 := Tryz.sizeOf154,
  v39 := Tryz.zeroValue154,
  t45 := Tryz.underlying194,
  a45 := Tryz.isAgg194,
  z45 := Tryz.sizeOf194,
  v45 := Tryz.zeroValue194,
  t46 := Tryz.underlying195,
  a46 := Tryz.isAgg195,
  z46 := Tryz.sizeOf195,
  v46 := Tryz.zeroValue195,
  t50 := Tryz.underlying111,
  a50 := Tryz.isAgg111,
  z50 := Tryz.sizeOf111,
  v50 := Tryz.zeroValue111,
  t53 := Tryz.underlying201,
  a53 := Tryz.isAgg201,
  z53 := Tryz.sizeOf201,
  v53 := Tryz.zeroValue201,
  t55 := Tryz.underlying95,
  a55 := Tryz.isAgg95,
  z55 := Tryz.sizeOf95,
  v55 := Tryz.zeroValue95,
  t66 := Tryz.underlying226,
  a66 := Tryz.isAgg226,
  z66 := Tryz.sizeOf226,
  v66 := Tryz.zeroValue226,
  t70 := Tryz.underlying230,
  a70 := Tryz.isAgg230,
  z70 := Tryz.sizeOf230,
  v70 := Tryz.zeroValue230,
  t76 := Tryz.underlying246,
  a76 := Tryz.isAgg246,
  z76 := Tryz.sizeOf246,
  v76 := Tryz.zeroValue246,
  t77 := Tryz.underlying247,
  a77 := Tryz.isAgg247,
  z77 := Tryz.sizeOf247,
  v77 := Tryz.zeroValue247 }
end Go.Proofs.YtnkdcmibafjplaaGreatDoor
namespace Go.Proofs.YtnkdcmibafjplaaGreatDoor
open Go.RowKit Go.Sort
set_option linter.unusedVariables false
set_option linter.unusedSimpArgs false

theorem flat_get : ∀ (L : List Def) (t : Nat), t < L.length * 2 → (L.flatMap defCells)[t]? = (defCells (L.getD (t / 2) default))[t % 2]?
  | [], t, h => by simp at h
  | d :: L, 0, h => rfl
  | d :: L, 1, h => rfl
  | d :: L, t + 2, h => by
    have ih := flat_get L t (by simp at h; omega)
    rw [show (t + 2) / 2 = t / 2 + 1 by omega, show (t + 2) % 2 = t % 2 by omega, List.getD_cons_succ, ← ih]
    rfl
theorem flatK_flat (d : Array Def) : flatK defCells 2 d = (d.toList.flatMap defCells).toArray := by
  have hlen : (d.toList.flatMap defCells).length = d.size * 2 := by
    rw [List.length_flatMap, ← Array.length_toList]
    generalize d.toList = l
    induction l with
    | nil => rfl
    | cons a l ih => rw [List.map_cons, List.sum_cons, ih]; simp [defCells]; omega
  refine Array.ext (by rw [size_flatK]; simp [hlen]) fun t h1 h2 => ?_
  rw [size_flatK] at h1
  have h := get_flatK defCells 2 d t h1
  rw [getElem!_pos _ t (by rw [size_flatK]; exact h1)] at h
  rw [h]
  have hg := flat_get d.toList t (by rw [Array.length_toList]; exact h1)
  have ht : t / 2 < d.size := by omega
  have hd : d.toList.getD (t / 2) default = d[t / 2]! := by
    rw [getElem!_pos d (t / 2) ht, List.getD_eq_getElem?_getD, List.getElem?_eq_getElem (by simpa using ht)]; rfl
  rw [hd] at hg
  generalize d[t / 2]! = y at *
  have hm : t % 2 < (defCells y).length := by show t % 2 < 2; omega
  rw [getElem!_pos (defCells y) (t % 2) hm]
  rw [List.getElem?_eq_getElem hm, List.getElem?_eq_getElem (by rw [hlen]; exact h1)] at hg
  injection hg with hg
  exact hg.symm
theorem holds_id {w : World} {g : Nat} {cur : Array Value} {e : TypeId} {xs : List Value} (hb : w.heap[g]? = some (.cells cur e (0, 0))) (ht : cur.toList.take xs.length = xs) : Holds id w g 0 xs.toArray := by
  intro j hj
  have hj' : j < xs.length := by simpa using hj
  refine ⟨?_, by simp [World.frozen?, hb]⟩
  have h1 : (cur.toList.take xs.length)[j]? = xs[j]? := by rw [ht]
  rw [List.getElem?_take_of_lt hj'] at h1
  simp only [World.cell?, hb, Nat.zero_add]
  simp only [Option.isSome_none, Bool.false_eq_true, if_false]
  rw [← Array.getElem?_toList, h1]
  simp [hj']
theorem heap_sortId {w : World} {g n : Nat} {os : Array Obj} {cur : Array Value} {e : TypeId} {fr : Nat × Nat} (d : Array Value) (hb : w.heap[g]? = some (.cells cur e fr)) :
    (grow (putRow id (Sort.ahead w n) g 0 d) os).heap[g]? = some (.cells (putCells id 0 d cur) e fr) := by
  have hg : g < w.heap.size := (Array.getElem?_eq_some_iff.1 hb).1
  rw [heap_grow_old _ _ (by simpa using hg)]
  simp [putRow, mapBlock, Sort.ahead, Array.getElem?_modify, hb, onCells]
theorem grownBy_sortId {w : World} {g n : Nat} {os : Array Obj} (d : Array Value) : w.grownBy (grow (putRow id (Sort.ahead w n) g 0 d) os) (some g) := by
  refine ⟨rfl, rfl, rfl, by simp, fun k hk hne => ?_⟩
  rw [heap_grow_old _ _ (by simpa using hk)]
  have : g ≠ k := fun e => hne (by rw [e])
  simp [putRow, mapBlock, Sort.ahead, Array.getElem?_modify, this]
theorem take_putId (cur : Array Value) (ts : List Value) (h : ts.length ≤ cur.size) : (putCells id 0 ts.toArray cur).toList.take ts.length = ts := by
  apply List.ext_getElem?
  intro j
  by_cases hj : j < ts.length
  · rw [List.getElem?_take_of_lt hj, Array.getElem?_toList]
    simp [putCells, hj, show j < cur.size by omega]
  · rw [List.getElem?_take_eq_none (by omega), List.getElem?_eq_none (by omega)]
def dCmp (x y : Def) : Int := scmp x.path y.path
theorem dLt (x y : Def) : ltOf dCmp x y = Op.bytesLess x.path y.path := by
  unfold ltOf dCmp
  rcases scmp_cases x.path y.path with ⟨h, h1, _⟩ | ⟨h, h1, _⟩ | ⟨h, h1, _⟩ <;> rw [h, h1] <;> rfl
theorem dSwo : SWO (ltOf dCmp) where
  irrefl x := by rw [dLt]; exact bl_irr _
  trans x y z h1 h2 := by rw [dLt] at *; exact bl_trans h1 h2
  ntrans x y z h1 h2 := by
    rw [dLt] at *
    cases h3 : Op.bytesLess x.path z.path with
    | false => rfl
    | true =>
      rcases scmp_cases x.path y.path with ⟨_, h, _⟩ | ⟨_, _, _, h⟩ | ⟨_, _, h, _⟩
      · rw [h] at h1; cases h1
      · rw [h, h2] at h3; cases h3
      · rw [bl_trans h h3] at h2; cases h2
theorem agg_def (w : World) : (isAgg 120).run Tryz.prog w = .ok true w := by kernel_rfl
theorem size_def (w : World) : (Go.sizeOf 120).run Tryz.prog w = .ok 2 w := by kernel_rfl
theorem dClosure (x y : Def) (W : World) : Calls Tryz.prog 45 #[.agg #[.string (bstr x.path), .int .i64 x.kind], .agg #[.string (bstr y.path), .int .i64 y.kind]] W fun e w' => e = .returned (.int .i64 (dCmp x y)) ∧ ∃ q os', w' = grow (W.drewN q) os' := by
  have hcon := fun W' => strCmp_any x.path y.path W'
  change ∀ W', Calls Tryz.prog _ _ _ _ at hcon
  unfold dCmp
  generalize scmp x.path y.path = r at hcon ⊢
  go_enter Tryz.func45, Tryz.ntmps45
  go_wp2_with (go_at_call 46; refine (hcon _).mono ?_; rintro e w' ⟨rfl, rfl⟩)
  go_ret
  exact ⟨rfl, 0, _, by rw [alloc_eq_grow, alloc_eq_grow, grow_grow]; rfl⟩
theorem sortD_any (v : Value) (L : List Def) (B : Nat) (w : World) (hO : w.ownsRow B 120 2 v L.length (L.flatMap defCells)) (hL : L.length ≤ 1000) (hp : ∀ d ∈ L, d.path.length ≤ maxLen ∧ (Lit.int .i64 d.kind).wf = true) :
    Calls Tryz.prog 44 #[v, .func (.func 45) #[] #[]] w fun e w' =>
      e = .returned (.tuple #[]) ∧ ∃ out : List Def, out.Perm L ∧ out.Pairwise (fun x y => Op.bytesLess y.path x.path = false) ∧ (Rp.sl defRp).ok w' (· < w'.heap.size) [v] out ∧ Below B w w' := by
  have hO' := hO
  obtain ⟨hlen, hO⟩ := hO
  by_cases h0 : L.length = 0
  · obtain rfl : L = [] := List.length_eq_zero_iff.1 h0
    have hv : ∃ p c, v = .slice p 0 c := by
      rcases hO with ⟨rfl, _⟩ | ⟨g, cap, cur, rfl, _⟩
      · exact ⟨_, _, rfl⟩
      · exact ⟨_, _, rfl⟩
    obtain ⟨p, c, rfl⟩ := hv
    have hn := AnyF.slices_SortFunc_none defSort p c (.func (.func 45) #[] #[]) w
    refine Calls.mono hn ?_
    rintro e w' ⟨rfl, rfl⟩
    exact ⟨rfl, [], List.Perm.refl _, List.Pairwise.nil, Rp.of_ownN (R := defRp) (by decide) (fun _ => rfl) hO' (fun g hg => (hO'.lt g hg).2) (fun s hs => absurd hs (by simp)), Below.refl _ _⟩
  · rcases hO with ⟨_, h⟩ | ⟨g, cap, cur, rfl, hBg, hg, hnc, hcm, hcs, htk⟩
    · exact absurd h h0
    have hgl : g < w.heap.size := (Array.getElem?_eq_some_iff.1 hg).1
    have hxl : (L.flatMap defCells).length = L.length * 2 := hlen
    have hH : HoldsK defCells 2 w g 0 L.toArray := by
      unfold HoldsK
      rw [flatK_flat]
      exact holds_id hg (by rw [hxl]; exact htk)
    have hcmp : CmpLays Tryz.prog 45 #[] defCells 2 dCmp g 0 L.toArray.size w := fun _ _ _ _ x y => dClosure x y _
    have eg : ∀ args w, (callFunc 45 args).run Tryz.prog w = .ok (.enter 45 args) w := enters_of Tryz.func45 (by kernel_rfl) rfl
    have hcon := AnyQ.slices_SortFunc defSort 2 agg_def size_def defCells (fun _ => rfl) (fun x v hv => by simp [defCells] at hv; rcases hv with rfl | rfl <;> rfl) dCmp dSwo 45 #[] g 0 cap L.toArray w eg hcmp hH hgl (by simp; omega)
    refine Calls.mono (show Calls Tryz.prog 44 #[.slice (some ⟨g, 0, none⟩) L.length cap, .func (.func 45) #[] #[]] w _ from hcon) ?_
    rintro e w' ⟨rfl, d', n, os, ⟨hs, _, hperm⟩, hsort, rfl⟩
    have hs' : d'.toList.length = L.length := by simpa using hs
    have hpm : d'.toList.Perm L := by
      have := hperm
      simpa [Array.extract_eq_self_of_le, hs] using this
    refine ⟨rfl, d'.toList, hpm, ?_, ?_, ?_⟩
    · rw [List.pairwise_iff_getElem]
      intro i j hi hj hij
      have := hsort i j (Nat.zero_le _) hij (by rw [hs'] at hj; simpa using hj)
      rw [dLt] at this
      rw [getElem!_pos d' i (by simpa using hi), getElem!_pos d' j (by simpa using hj)] at this
      simpa using this
    · have hl2 : (d'.toList.flatMap defCells).length = L.length * 2 := by
        have h := congrArg Array.size (flatK_flat d')
        rw [size_flatK] at h
        simp only [List.size_toArray] at h
        rw [← h, hs]; simp
      have hown : (sortWorldK defCells 2 w g 0 n d' os).ownsRow B 120 2 (.slice (some ⟨g, 0, none⟩) L.length cap) L.length (d'.toList.flatMap defCells) := by
        unfold sortWorldK putRowK
        rw [flatK_flat]
        exact ⟨hl2, .inr ⟨g, cap, _, rfl, hBg, heap_sortId _ hg, hnc, hcm, by simp [putCells, hcs], by rw [← hl2]; exact take_putId cur _ (by rw [hl2, hcs]; exact Nat.mul_le_mul_right _ hnc)⟩⟩
      have e : L.length = d'.toList.length := hs'.symm
      rw [e] at hown ⊢
      exact Rp.of_ownN (R := defRp) (by decide) (fun _ => rfl) hown (fun j hj => (hown.lt j hj).2) (fun s hs => def_mk (hp s (hpm.mem_iff.1 hs)).1 (hp s (hpm.mem_iff.1 hs)).2)
    · unfold sortWorldK putRowK
      exact (Below.refl B w).grown (grownBy_sortId _) (Nat.le_of_lt (Nat.lt_of_le_of_lt hBg hgl)) (fun k e => by injection e with e; omega)
end Go.Proofs.YtnkdcmibafjplaaGreatDoor
namespace Go.Proofs.YtnkdcmibafjplaaGreatDoor
open Go.RowKit
set_option linter.unusedVariables false
set_option linter.unusedSimpArgs false

def WrongPost (n : List UInt8) (E : List Ent) (F : List FileR) (w : World) (e : Ending) (w' : World) : Prop :=
  ∃ v out, e = .returned (.tuple #[v, .int .i64 (wrFault n E F)]) ∧ (Rp.sl defRp).ok w' (· < w'.heap.size) [v] out ∧ Below w.heap.size w w' ∧ (wrFault n E F = 0 → out.Perm (wrongL E F) ∧ out.Pairwise (fun x y => Op.bytesLess y.path x.path = false)) ∧ (wrFault n E F ≠ 0 → out = [])
theorem WrongPost.bad {n : List UInt8} {E : List Ent} {F : List FileR} {w w' : World} {f : Int} (h : wrFault n E F = f) (h0 : f ≠ 0) (hb : Below w.heap.size w w') : WrongPost n E F w (.returned (.tuple #[.slice none 0 0, .int .i64 f])) w' :=
  ⟨_, [], by rw [h], Rp.sl_nil _ _ _, hb, fun h' => absurd (h.symm.trans h') h0, fun _ => rfl⟩
theorem row_push {w : World} {B : Nat} {v : Value} {L : List Def} {d : Def} (h : w.ownsRow B 120 2 v (L.length + 1) (L.flatMap defCells ++ defCells d)) : w.ownsRow B 120 2 v (L ++ [d]).length ((L ++ [d]).flatMap defCells) := by
  rw [List.length_append, List.flatMap_append]
  simpa using h
/-- Behind an alloc and a map's update. -/
theorem w_step {w3 wr : World} {K : TypeId} {z : Value} {k : Nat} {g : Lit → Option Value} {vo : Value} {m : Nat} {xs : List Value} (hG : VMap Tryz.prog K z wr w3.heap.size k g) (hO : wr.ownsRow w3.heap.size 120 2 vo m xs) (hB : Below w3.heap.size w3 wr) (us : List Value) (T : TypeId) :
    ∀ w6, (wr.alloc (.cells us.toArray T)).grownBy w6 (some w3.heap.size) → Blk w6 wr.heap.size T us ∧ w6.ownsRow w3.heap.size 120 2 vo m xs ∧ Below w3.heap.size w3 w6 := by
  intro w6 hg
  refine ⟨(Blk.new wr T us).grown_ hg (fun e => by injection e with e; have := hG.lt; omega), ?_, (hB.alloc hB.size _).grown hg (hB.alloc hB.size _).size (fun j e => by injection e with e; omega)⟩
  refine (hO.kept (below_grown ((Below.refl wr.heap.size wr).alloc (Nat.le_refl _) _)) (by cases hv : vo.ownBlock <;> simp)).kept hg (.inr (hG.notRow hO).symm)
theorem w_alloc {w3 wr : World} {vo : Value} {m : Nat} {xs : List Value} (hO : wr.ownsRow w3.heap.size 120 2 vo m xs) (hB : Below w3.heap.size w3 wr) (o : Obj) :
    (wr.alloc o).ownsRow w3.heap.size 120 2 vo m xs ∧ Below w3.heap.size w3 (wr.alloc o) :=
  ⟨hO.kept (below_grown ((Below.refl wr.heap.size wr).alloc (Nat.le_refl _) _)) (by cases hv : vo.ownBlock <;> simp), hB.alloc hB.size _⟩
theorem w_call {w3 w6 w8 : World} {K : TypeId} {z : Value} {k : Nat} {g : Lit → Option Value} {vo : Value} {m : Nat} {xs : List Value} {X : Nat} {T : TypeId} {us : List Value} (hG : VMap Tryz.prog K z w6 w3.heap.size k g) (hO : w6.ownsRow w3.heap.size 120 2 vo m xs) (hB : Below w3.heap.size w3 w6) (hK : Blk w6 X T us)
    (hb : Below w6.heap.size w6 w8) : VMap Tryz.prog K z w8 w3.heap.size k g ∧ w8.ownsRow w3.heap.size 120 2 vo m xs ∧ Below w3.heap.size w3 w8 ∧ Blk w8 X T us :=
  ⟨hG.below hb hG.lt, hO.kept (below_grown hb) (by cases hv : vo.ownBlock <;> simp), hB.trans (hb.mono hB.size), hK.grown_ (below_grown hb) (by simp)⟩
theorem defOf_mem {F : List FileR} {x : Ent} {d : Def} (h : d ∈ defOf F x) : d.path = x.path ∧ 1 ≤ d.kind ∧ d.kind ≤ 4 := by
  unfold defOf at h
  split at h
  · obtain rfl := List.mem_singleton.1 h; exact ⟨rfl, by dsimp only; omega, by dsimp only; omega⟩
  · split at h
    · obtain rfl := List.mem_singleton.1 h; exact ⟨rfl, by dsimp only; omega, by dsimp only; omega⟩
    · split at h
      · obtain rfl := List.mem_singleton.1 h; exact ⟨rfl, by dsimp only; omega, by dsimp only; omega⟩
      · cases h
theorem newOf_mem {E : List Ent} {y : FileR} {d : Def} (h : d ∈ newOf E y) : d.path = y.path ∧ 1 ≤ d.kind ∧ d.kind ≤ 4 := by
  unfold newOf at h
  split at h
  · cases h
  · obtain rfl := List.mem_singleton.1 h; exact ⟨rfl, by dsimp only; omega, by dsimp only; omega⟩
theorem wrongL_ok {w : World} {S : Nat → Prop} {v0 v1 : Value} {E : List Ent} {F : List FileR} (h0 : (Rp.sl entRp).ok w S [v0] E) (h1 : (Rp.sl fileRp).ok w S [v1] F) : ∀ d ∈ wrongL E F, d.path.length ≤ maxLen ∧ (Lit.int .i64 d.kind).wf = true := by
  intro d hd
  rcases List.mem_append.1 hd with hd | hd
  · obtain ⟨x, hx, hd⟩ := List.mem_flatMap.1 hd
    obtain ⟨h, hk⟩ := defOf_mem hd
    obtain ⟨j, hj, rfl⟩ := List.mem_iff_getElem.1 hx
    obtain ⟨_, _, _, _, _, _, _, hz, _⟩ := ent_at h0 hj
    exact ⟨by rw [h]; unfold maxLen; omega, WalkArith.wf_i64 (by omega)⟩
  · obtain ⟨x, hx, hd⟩ := List.mem_flatMap.1 hd
    obtain ⟨h, hk⟩ := newOf_mem hd
    obtain ⟨j, hj, rfl⟩ := List.mem_iff_getElem.1 hx
    obtain ⟨_, _, _, _, _, _, _, hz, _⟩ := file_at h1 hj
    exact ⟨by rw [h]; unfold maxLen; omega, WalkArith.wf_i64 (by omega)⟩
theorem pack_ok {n : List UInt8} {E : List Ent} (h : packFault n E = 0) : E.length ≤ 500 := by
  unfold packFault at h
  split at h
  · omega
  · unfold entsFault at h
    split at h
    · omega
    · omega
set_option maxRecDepth 100000 in
set_option maxHeartbeats 4000000 in
theorem wrong_any (n : List UInt8) (v0 : Value) (E : List Ent) (v1 : Value) (F : List FileR) (w : World) (h0 : (Rp.sl entRp).ok w (· < w.heap.size) [v0] E) (h1 : (Rp.sl fileRp).ok w (· < w.heap.size) [v1] F) (hG : GInt w) (hn : n.length ≤ 9223372036854775807) :
    Calls Tryz.prog 15 #[.agg #[.string (bstr n), v0], v1] w (WrongPost n E F w) := by
  obtain ⟨A, c, rfl, hl, hc, _⟩ := Rp.sl_open h0
  obtain ⟨A', c', rfl, hl', hc', _⟩ := Rp.sl_open h1
  unfold maxLen at hc hc'
  have hmm := @run_makeMap Tryz.prog
  have hab := (Below.refl w.heap.size w).alloc (Nat.le_refl _) (.cells #[.string (bstr n), .slice A E.length c] 40)
  have hkb := Blk.new w 40 [.string (bstr n), .slice A E.length c]
  have H0 := Lib.hid h0
  have H1 := Lib.hid h1
  have HG := Lib.hid (hG.ext hab)
  have HGI := Lib.hid hG
  have HAB := Lib.hid hab
  have HKB := Lib.hid hkb
  have hlt0 : w.heap.size < (w.alloc (.cells #[.string (bstr n), .slice A E.length c] 40)).heap.size := by simp
  clear h0 h1 hG hab hkb
  go_enter Tryz.func15, Tryz.ntmps15
  have HMM := Lib.hid hmm
  clear hmm
  go_wp2_with fail
  refine (checkPackage_any n _ E _ (Rp.ext _ H0.out HAB.out) HG.out hn).mono ?_
  rintro e w1 ⟨rfl, hb1⟩
  have HB1 := Lib.hid (HAB.out.trans (hb1.mono HAB.out.size))
  have HK1 := Lib.hid (HKB.out.same (same_below hb1) hlt0)
  have hlw1 : w.heap.size < w1.heap.size := by have := hb1.size; omega
  clear HG HAB HKB hlt0 hb1
  by_cases hf : packFault n E = 0
  case neg =>
    have HP := Lib.hid (WrongPost.bad (w := w) (w' := w1) (n := n) (E := E) (F := F) (by rw [wrFault, if_neg hf]) hf HB1.out)
    generalize packFault n E = f at *
    go_wp2_with fail
    go_ret2
    exact HP.out
  have HPF : Hid (wrFault n E F = filesFault F) := Lib.hid (by rw [wrFault, if_pos hf])
  have HPK := Lib.hid hf
  rw [hf]
  clear hf
  go_wp2_with fail
  refine (checkFiles_any _ F w1 (Rp.ext _ H1.out HB1.out) (HGI.out.ext HB1.out)).mono ?_
  rintro e w2 ⟨rfl, hb2⟩
  have HB2 := Lib.hid (HB1.out.trans (hb2.mono HB1.out.size))
  have HK2 := Lib.hid (HK1.out.same (same_below hb2) hlw1)
  have hlw2 : w.heap.size < w2.heap.size := by have := hb2.size; omega
  clear hb2 HK1 HB1 hlw1
  by_cases hf : filesFault F = 0
  case neg =>
    have HP := Lib.hid (WrongPost.bad (w := w) (w' := w2) (n := n) (E := E) (F := F) HPF.out hf HB2.out)
    generalize filesFault F = f at *
    go_wp2_with fail
    go_ret2
    exact HP.out
  rw [hf]
  have HWF : Hid (wrFault n E F = 0) := Lib.hid (HPF.out.trans hf)
  have hF5 := (files_ok hf).1
  clear hf HPF
  have hmm := HMM.out
  go_wp2_with fail
  clear hmm
  have HM0 := Lib.hid (VMap.made (P := Tryz.prog) (K := 9) (z := .slice none 0 0) w2)
  have HBM := Lib.hid ((Below.refl w2.heap.size w2).alloc (Nat.le_refl _) (.map #[] 0))
  go_loopw [32] (fun vi wr => ∃ (k : Nat) (f : Lit → Option Value), k ≤ F.length ∧ vi = .int .i64 k ∧ Hid (VMap Tryz.prog 9 (.slice none 0 0) wr w2.heap.size k f) ∧ Hid (FRel w f (F.take k)) ∧ Hid (Below w2.heap.size w2 wr)) (fun vi _ => F.length - (intOf vi).toNat)
  case atStart => exact ⟨0, _, by omega, rfl, HM0, FRel.nil w, HBM⟩
  case round =>
    clear HM0 HBM
    obtain ⟨k, f, hk, rfl, HM, HF, HB⟩ := hrel
    by_cases hlt : k < F.length
    · obtain ⟨ad, c2, v2, e1, hadb, c0, c1, hz1, hv2⟩ := file_at H1.out hlt
      injection e1 with e1 _ e3
      subst e1 e3
      obtain ⟨A1, cb, rfl, hcb, hcbm, _⟩ := Rp.sl_open hv2
      have HFP := Lib.hid (HF.out.put hlt hv2)
      have hwb := HB2.out.trans (HB.out.mono (Nat.le_of_lt hlw2))
      have d0 := (hwb.cell (World.block_lt_of_cell? w _ c0)).trans c0
      have d1 := (hwb.cell (World.block_lt_of_cell? w _ c1)).trans c1
      clear hadb hv2 hwb c0 c1 HF
      generalize F[k] = x at *
      have HB5 := Lib.hid (HB.out.alloc HB.out.size (.cells #[.string (bstr x.path), .slice A1 x.bytes.length cb] 52))
      have HM5 := Lib.hid (HM.out.below ((Below.refl wr.heap.size wr).alloc (Nat.le_refl _) (.cells #[.string (bstr x.path), .slice A1 x.bytes.length cb] 52)) HM.out.lt)
      have hkb := Blk.new wr 52 [.string (bstr x.path), .slice A1 x.bytes.length cb]
      have k0 : _ = some (Value.string (bstr x.path)) := hkb.cell 0
      have k1 : _ = some (Value.slice A1 x.bytes.length cb) := hkb.cell 1
      have HKEY := Lib.hid (keyS x.path hz1)
      have hwlt := HM.out.lt
      clear hkb HM HB
      go_wp2_with (at_mapUpdate; refine vmap_update rfl _ _ _ 116 rfl HM5.out (Maps.string_keyed Tryz.underlying9) Tryz.underlying116 (by unfold maxLen; omega) (.string x.path) (.slice A1 x.bytes.length cb) rfl rfl rfl HKEY.out (by trivial) ?_; intro w6 HM6 HG6)
      go_roundw
      case rel => exact ⟨k + 1, _, by omega, by go_num, HM6.out, HFP.out, HB5.out.grown HG6.out HB5.out.size (fun g e => by injection e with e; omega)⟩
      case measure => simp [intOf]; omega
    · obtain rfl : k = F.length := by omega
      rw [List.take_length] at HF
      have hkr := HK2.out.same (same_below HB.out) hlw2
      have k1 : wr.cell? ⟨w.heap.size, 1, none⟩ = some (.slice A E.length c) := hkr.cell 1
      have HB3 := Lib.hid (HB2.out.trans (HB.out.mono (Nat.le_of_lt hlw2)))
      have HKR := Lib.hid hkr
      have hw23 := HM.out.lt
      clear hkr HB HK2 HB2
      rename World => w3
      have hE5 := pack_ok HPK.out
      have k1' := (World.cell?_alloc_lt w3 (.map #[] 0) ⟨w.heap.size, 1, none⟩ (World.block_lt_of_cell? w3 _ k1)).trans k1
      have hmm := HMM.out
      clear k1
      go_wp2_with fail
      clear hmm k1'
      have HG0 := Lib.hid (VMap.made (P := Tryz.prog) (K := 9) (z := .bool false) w3)
      have HBG := Lib.hid ((Below.refl w3.heap.size w3).alloc (Nat.le_refl _) (.map #[] 0))
      go_loopw [12, 46] (fun vo vi wr => ∃ (k : Nat) (g : Lit → Option Value), k ≤ E.length ∧ vi = .int .i64 k ∧ Hid (VMap Tryz.prog 9 (.bool false) wr w3.heap.size k g) ∧ Hid (GRel g (E.take k)) ∧
        Hid (wr.ownsRow w3.heap.size 120 2 vo ((E.take k).flatMap (defOf F)).length (((E.take k).flatMap (defOf F)).flatMap defCells)) ∧ Hid (Below w3.heap.size w3 wr)) (fun _ vi _ => E.length - (intOf vi).toNat)
      case atStart => exact ⟨0, _, by omega, rfl, HG0, GRel.nil, World.ownsRow_nil _ _ _ _, HBG⟩
      case round =>
        clear HG0 HBG
        obtain ⟨k, g, hk, rfl, HGM, HG, HO, HB⟩ := hrel
        by_cases hlt : k < E.length
        · obtain ⟨AO, cO, rfl, hcO, hcO2, hgO⟩ := own_form HO.out
          obtain ⟨ad, c2, e1, hadb, c0, c1, c3, hz1, hz2⟩ := ent_at H0.out hlt
          injection e1 with e1 _ e3
          subst e1 e3
          have hw3 : w.heap.size ≤ w3.heap.size := by omega
          have hwb := HB3.out.trans (HB.out.mono hw3)
          have d0 := (hwb.cell (World.block_lt_of_cell? w _ c0)).trans c0
          have d1 := (hwb.cell (World.block_lt_of_cell? w _ c1)).trans c1
          have d2 := (hwb.cell (World.block_lt_of_cell? w _ c3)).trans c3
          have HGP := Lib.hid (HG.out.put hlt)
          have HTF := Lib.hid (take_flat (defOf F) E k hlt)
          have hle := flatMap_le1 (defOf F) (defOf_len F) (E.take k)
          rw [List.length_take] at hle
          have hle : ((E.take k).flatMap (defOf F)).length ≤ k := by omega
          clear hadb c0 c1 c3 HG hwb
          generalize E[k] = x at *
          generalize (E.take k).flatMap (defOf F) = L at HO HTF hle hcO ⊢
          have HST := Lib.hid (w_step HGM.out HO.out HB.out [.string (bstr x.path), .int .i64 x.size, .string (bstr x.digest)] 66)
          have HM5 := Lib.hid (HGM.out.below ((Below.refl wr.heap.size wr).alloc (Nat.le_refl _) (.cells #[.string (bstr x.path), .int .i64 x.size, .string (bstr x.digest)] 66)) HGM.out.lt)
          have hkb := Blk.new wr 66 [.string (bstr x.path), .int .i64 x.size, .string (bstr x.digest)]
          have k0 : _ = some (Value.string (bstr x.path)) := hkb.cell 0
          have HKEY := Lib.hid (keyS x.path hz1)
          have hwlt := HGM.out.lt
          clear hkb HB HO HGM
          cases hh : haveL F x.path with
          | none =>
            have HLK : Hid (∀ w6, Below w3.heap.size w3 w6 → (Instr.lookup 116 (.map (some w2.heap.size)) (.string (bstr x.path)) true).run Tryz.prog w6 = .ok (.tuple #[.slice none 0 0, .bool false]) w6) := Lib.hid (fun w6 hb => by
              have := (HM.out.below hb hw23).look_ok (T := 116) (Maps.string_keyed Tryz.underlying9) Tryz.underlying116 bytes_zero HKEY.out (by trivial)
              rw [HF.out.none hh] at this; exact this)
            have HHH := Lib.hid hh
            clear hh
            go_wp2_with (first
              | (at_mapUpdate; refine vmap_update rfl _ _ _ 117 rfl HM5.out (Maps.string_keyed Tryz.underlying9) Tryz.underlying117 (by unfold maxLen; omega) (.string x.path) (.bool true) rfl rfl rfl HKEY.out (by trivial) ?_; intro w6 HM6 HG6; obtain ⟨hk6, ho6, hb6⟩ := HST.out w6 HG6.out; have j0 := hk6.cell 0; have j1 := hk6.cell 1; have j2 := hk6.cell 2; simp only [List.getElem?_cons_zero, List.getElem?_cons_succ] at j0 j1 j2; have hlk := HLK.out w6 hb6; have HK6 := Lib.hid hk6; have HO6 := Lib.hid ho6; have HB6 := Lib.hid hb6; have hs6 := hb6.size; clear hk6 ho6 hb6)
              | (at_builtin; refine app_new rfl (.tmp 63) (.tmp 67) 67 rfl 120 _ 2 24 Tryz.underlying67 def_info rfl (by decide) (defCells ⟨x.path, 1⟩) HO6.out (by omega) rfl rfl rfl (by decide) (by simp [defCells, Value.oneCell']) (by unfold maxLen; omega) (by omega) ?_; intro g1 cc1 w7 HO7 HG7 HB7 HL7))
            go_roundw
            case rel => exact ⟨k + 1, _, by omega, by go_num, HM6.out.grown HG7.out (HM6.out.notRow HO6.out), HGP.out, by rw [HTF.out, defOf_none HHH.out]; exact row_push HO7.out, HB7.out _ HB6.out⟩
            case measure => simp [intOf]; omega
          | some b =>
            obtain ⟨v, hfv, hv⟩ := HF.out.some hh
            obtain ⟨A3, c4, rfl, hc3, hc3m, _⟩ := Rp.sl_open hv
            unfold maxLen at hc3m
            have HLK : Hid (∀ w6, Below w3.heap.size w3 w6 → (Instr.lookup 116 (.map (some w2.heap.size)) (.string (bstr x.path)) true).run Tryz.prog w6 = .ok (.tuple #[.slice A3 b.length c4, .bool true]) w6) := Lib.hid (fun w6 hb => by
              have := (HM.out.below hb hw23).look_ok (T := 116) (Maps.string_keyed Tryz.underlying9) Tryz.underlying116 bytes_zero HKEY.out (by trivial)
              rw [hfv] at this; exact this)
            have HHH := Lib.hid hh
            have HVB := Lib.hid hv
            clear hh hfv hv
            by_cases hs : (b.length : Int) = x.size
            · have n1 : ((b.length : Int) == x.size) = true := by rw [hs]; exact beq_self_eq_true _
              have n2 : ((b.length : Int) != x.size) = false := by rw [bne, n1]; rfl
              have HS := Lib.hid hs
              clear hs
              go_wp2_with (first
                | (at_mapUpdate; refine vmap_update rfl _ _ _ 117 rfl HM5.out (Maps.string_keyed Tryz.underlying9) Tryz.underlying117 (by unfold maxLen; omega) (.string x.path) (.bool true) rfl rfl rfl HKEY.out (by trivial) ?_; intro w6 HM6 HG6; obtain ⟨hk6, ho6, hb6⟩ := HST.out w6 HG6.out; have j0 := hk6.cell 0; have j1 := hk6.cell 1; have j2 := hk6.cell 2; simp only [List.getElem?_cons_zero, List.getElem?_cons_succ] at j0 j1 j2; have hlk := HLK.out w6 hb6; have HK6 := Lib.hid hk6; have HO6 := Lib.hid ho6; have HB6 := Lib.hid hb6; have hs6 := hb6.size; clear hk6 ho6 hb6))
              refine wp_region_held_drew (S := fun w' => w'.cell? ⟨wr.heap.size, 2, none⟩ = some (.string (bstr x.digest))) (by kernel_rfl) j2 (fun hHeld => ?_)
              obtain ⟨wd, hwd⟩ : ∃ wd, wd = w6.drew := ⟨_, rfl⟩
              have HBD : Hid (Below w6.heap.size w6 wd) := Lib.hid (by rw [hwd]; exact (Below.refl w6.heap.size w6).drew)
              rw [← hwd] at hHeld ⊢
              clear hwd
              have HVD := Lib.hid (Rp.ext _ HVB.out ((HB3.out.trans (HB6.out.mono hw3)).trans (HBD.out.mono (by omega))))
              refine wpAnyH_take (i := 0) (v := ?_) rfl (by kernel_rfl) (by kernel_rfl) (by kernel_rfl) (fun _ _ _ h => h) (Or.inl ⟨by rfl, ?_⟩) (by assumption) ?_
              rotate_left
              · (intro w hSw; (try dsimp only at hSw); go_simp; try with_reducible rfl)
              try simp only [List.getElem_toArray, List.getElem_cons_succ, List.getElem_cons_zero, Act.put, List.setIfInBounds_toArray, List.set_cons_zero, List.set_cons_succ]
              refine wpAnyH_take (i := 2) (v := ?_) rfl (by kernel_rfl) (by kernel_rfl) (by kernel_rfl) (fun _ _ _ h => h) (Or.inl ⟨by rfl, ?_⟩) (by assumption) ?_
              rotate_left
              · (intro w hSw; (try dsimp only at hSw); go_simp; try with_reducible rfl)
              try simp only [List.getElem_toArray, List.getElem_cons_succ, List.getElem_cons_zero, Act.put, List.setIfInBounds_toArray, List.set_cons_zero, List.set_cons_succ]
              refine wpAnyH_take (i := 3) (v := ?_) rfl (by kernel_rfl) (by kernel_rfl) (by kernel_rfl) (fun _ _ _ h => h) (Or.inl ⟨by rfl, ?_⟩) (by assumption) ?_
              rotate_left
              · (intro w hSw; (try dsimp only at hSw); go_simp; try with_reducible rfl)
              try simp only [List.getElem_toArray, List.getElem_cons_succ, List.getElem_cons_zero, Act.put, List.setIfInBounds_toArray, List.set_cons_zero, List.set_cons_succ]
              refine wpAnyH_ready (rs := [1]) (by kernel_rfl) (by simp) ?_
              refine AllReadyH.cons rfl (fun K hK => ?_) AllReadyH.nil
              rw [if_pos (by rfl)]
              simp only [List.getElem_toArray, List.getElem_cons_succ, List.getElem_cons_zero]
              go_simp
              go_at_call 11
              refine (digest_any _ _ _ _ HVD.out).mono ?_
              rintro e w8 ⟨rfl, hb8⟩
              have hb8 := HBD.out.trans (hb8.mono HBD.out.size)
              obtain ⟨hm8, ho8, hb9, hk8⟩ := w_call HM6.out HO6.out HB6.out HK6.out hb8
              have j3 := hk8.cell 0
              have j4 := hk8.cell 2
              have HM8 := Lib.hid hm8
              have HO8 := Lib.hid ho8
              have HB8 := Lib.hid hb9
              have hs8 := hb9.size
              simp only [List.getElem?_cons_zero, List.getElem?_cons_succ] at j3 j4
              clear hb8 hm8 ho8 hb9 hk8 j0 j1 j2 hlk
              show K _ w8
              refine hK.out _ _ j4 (fun hHeld => ?_)
              clear hK K
              try simp only [List.getElem_toArray, List.getElem_cons_succ, List.getElem_cons_zero, Act.put, List.setIfInBounds_toArray, List.set_cons_zero, List.set_cons_succ]
              refine wpAnyH_take (i := 4) (v := ?_) rfl (by kernel_rfl) (by kernel_rfl) (by kernel_rfl) (fun _ _ _ h => h) (Or.inl ⟨by rfl, ?_⟩) (by assumption) ?_
              rotate_left
              · (intro w hSw; (try dsimp only at hSw); go_simp; try with_reducible rfl)
              try simp only [List.getElem_toArray, List.getElem_cons_succ, List.getElem_cons_zero, Act.put, List.setIfInBounds_toArray, List.set_cons_zero, List.set_cons_succ]
              refine wpAnyH_take (i := 5) (v := ?_) rfl (by kernel_rfl) (by kernel_rfl) (by kernel_rfl) (fun _ _ _ h => h) (Or.inl ⟨by rfl, ?_⟩) (by assumption) ?_
              rotate_left
              · (intro w hSw; (try dsimp only at hSw); go_simp; try with_reducible rfl)
              try simp only [List.getElem_toArray, List.getElem_cons_succ, List.getElem_cons_zero, Act.put, List.setIfInBounds_toArray, List.set_cons_zero, List.set_cons_succ]
              refine wpAnyH_done (by kernel_rfl) ?_ _
              clear hHeld
              by_cases hd : digL b = x.digest
              · have m1 : ((bstr (hexL (fnv b) 16)).toList == (bstr x.digest).toList) = true := str_beq (congrArg bstr hd)
                rw [m1, Bool.not_true]
                have HD := Lib.hid hd
                clear hd
                go_wp2_with fail
                go_roundw
                case rel => exact ⟨k + 1, _, by omega, by go_num, HM8.out, HGP.out, by rw [HTF.out, defOf_ok HHH.out HS.out HD.out, List.append_nil]; exact HO8.out, HB8.out⟩
                case measure => simp [intOf]; omega
              · have m1 : ((bstr (hexL (fnv b) 16)).toList == (bstr x.digest).toList) = false := str_bne (fun e => hd (bstr_inj e))
                rw [m1, Bool.not_false]
                have HD := Lib.hid hd
                clear hd
                go_wp2_with (first
                  | (at_builtin; refine app_new rfl (.tmp 87) (.tmp 91) 67 rfl 120 _ 2 24 Tryz.underlying67 def_info rfl (by decide) (defCells ⟨x.path, 4⟩) HO8.out (by omega) rfl rfl rfl (by decide) (by simp [defCells, Value.oneCell']) (by unfold maxLen; omega) (by omega) ?_; intro g1 cc1 w7 HO7 HG7 HB7 HL7))
                go_roundw
                case rel => exact ⟨k + 1, _, by omega, by go_num, HM8.out.grown HG7.out (HM8.out.notRow HO8.out), HGP.out, by rw [HTF.out, defOf_dig HHH.out HS.out HD.out]; exact row_push HO7.out, HB7.out _ HB8.out⟩
                case measure => simp [intOf]; omega
            · have n1 : ((b.length : Int) == x.size) = false := by rw [beq_eq_false_iff_ne]; exact hs
              have n2 : ((b.length : Int) != x.size) = true := by rw [bne, n1]; rfl
              have HS := Lib.hid hs
              clear hs
              go_wp2_with (first
                | (at_mapUpdate; refine vmap_update rfl _ _ _ 117 rfl HM5.out (Maps.string_keyed Tryz.underlying9) Tryz.underlying117 (by unfold maxLen; omega) (.string x.path) (.bool true) rfl rfl rfl HKEY.out (by trivial) ?_; intro w6 HM6 HG6; obtain ⟨hk6, ho6, hb6⟩ := HST.out w6 HG6.out; have j0 := hk6.cell 0; have j1 := hk6.cell 1; have j2 := hk6.cell 2; simp only [List.getElem?_cons_zero, List.getElem?_cons_succ] at j0 j1 j2; have hlk := HLK.out w6 hb6; have HK6 := Lib.hid hk6; have HO6 := Lib.hid ho6; have HB6 := Lib.hid hb6; have hs6 := hb6.size; clear hk6 ho6 hb6)
                | (at_builtin; refine app_new rfl (.tmp 75) (.tmp 79) 67 rfl 120 _ 2 24 Tryz.underlying67 def_info rfl (by decide) (defCells ⟨x.path, 3⟩) HO6.out (by omega) rfl rfl rfl (by decide) (by simp [defCells, Value.oneCell']) (by unfold maxLen; omega) (by omega) ?_; intro g1 cc1 w7 HO7 HG7 HB7 HL7))
              go_roundw
              case rel => exact ⟨k + 1, _, by omega, by go_num, HM6.out.grown HG7.out (HM6.out.notRow HO6.out), HGP.out, by rw [HTF.out, defOf_size HHH.out HS.out]; exact row_push HO7.out, HB7.out _ HB6.out⟩
              case measure => simp [intOf]; omega
        · obtain rfl : k = E.length := by omega
          rw [List.take_length] at HG HO
          have hle := flatMap_le1 (defOf F) (defOf_len F) E
          go_wp2_with fail
          rename World => w4
          go_loopw [12, 96] (fun vo vi wr => ∃ k : Nat, k ≤ F.length ∧ vi = .int .i64 k ∧ Hid (VMap Tryz.prog 9 (.bool false) wr w3.heap.size E.length g) ∧
            Hid (wr.ownsRow w3.heap.size 120 2 vo (E.flatMap (defOf F) ++ (F.take k).flatMap (newOf E)).length ((E.flatMap (defOf F) ++ (F.take k).flatMap (newOf E)).flatMap defCells)) ∧ Hid (Below w3.heap.size w3 wr)) (fun _ vi _ => F.length - (intOf vi).toNat)
          case atStart => exact ⟨0, by omega, rfl, HGM, by rw [List.take_zero, List.flatMap_nil, List.append_nil]; exact HO.out, HB⟩
          case round =>
            clear HGM HO HB
            obtain ⟨k, hk, rfl, HGM, HO, HB⟩ := hrel
            by_cases hlt : k < F.length
            · have HTF : Hid (E.flatMap (defOf F) ++ (F.take (k + 1)).flatMap (newOf E) = (E.flatMap (defOf F) ++ (F.take k).flatMap (newOf E)) ++ newOf E F[k]) := Lib.hid (by rw [take_flat (newOf E) F k hlt, List.append_assoc])
              have hle3 := flatMap_le1 (newOf E) (newOf_len E) (F.take k)
              rw [List.length_take] at hle3
              have hle4 : (E.flatMap (defOf F) ++ (F.take k).flatMap (newOf E)).length ≤ 1000 := by rw [List.length_append]; omega
              generalize E.flatMap (defOf F) ++ (F.take k).flatMap (newOf E) = L at HO HTF hle4 ⊢
              obtain ⟨AO, cO, rfl, hcO, hcO2, hgO⟩ := own_form HO.out
              obtain ⟨ad, c2, v2, e1, hadb, c0, c1, hz1, hv2⟩ := file_at H1.out hlt
              injection e1 with e1 _ e3
              subst e1 e3
              obtain ⟨A1, cb, rfl, hcb, hcbm, _⟩ := Rp.sl_open hv2
              have hw3 : w.heap.size ≤ w3.heap.size := by omega
              have hwb := HB3.out.trans (HB.out.mono hw3)
              have d0 := (hwb.cell (World.block_lt_of_cell? w _ c0)).trans c0
              have d1 := (hwb.cell (World.block_lt_of_cell? w _ c1)).trans c1
              clear hadb hv2 hwb c0 c1
              generalize F[k] = x at *
              have HAL := Lib.hid (w_alloc HO.out HB.out (.cells #[.string (bstr x.path), .slice A1 x.bytes.length cb] 52))
              have hs5 := HAL.out.2.size
              have HM5 := Lib.hid (HGM.out.below ((Below.refl wr.heap.size wr).alloc (Nat.le_refl _) (.cells #[.string (bstr x.path), .slice A1 x.bytes.length cb] 52)) HGM.out.lt)
              have hkb := Blk.new wr 52 [.string (bstr x.path), .slice A1 x.bytes.length cb]
              have k0 : _ = some (Value.string (bstr x.path)) := hkb.cell 0
              have HKEY := Lib.hid (keyS x.path hz1)
              have hwlt := HGM.out.lt
              have hlk := HM5.out.look (T := 117) (Maps.string_keyed Tryz.underlying9) Tryz.underlying117 bool_zero HKEY.out (by trivial)
              rw [HG.out x.path] at hlk
              clear hkb HB HO HGM
              by_cases hm : x.path ∈ E.map (·.path)
              · rw [decide_eq_true hm] at hlk
                have HN : Hid (newOf E x = []) := Lib.hid (if_pos hm)
                clear hm
                go_wp2_with fail
                go_roundw
                case rel => exact ⟨k + 1, by omega, by go_num, HM5, by rw [HTF.out, HN.out, List.append_nil]; exact HAL.out.1, HAL.out.2⟩
                case measure => simp [intOf]; omega
              · rw [decide_eq_false hm] at hlk
                have HN : Hid (newOf E x = [⟨x.path, 2⟩]) := Lib.hid (if_neg hm)
                clear hm
                go_wp2_with (first
                  | (at_builtin; refine app_new rfl (.tmp 105) (.tmp 109) 67 rfl 120 _ 2 24 Tryz.underlying67 def_info rfl (by decide) (defCells ⟨x.path, 2⟩) HAL.out.1 (by omega) rfl (by rw [World.size_alloc]; rfl) rfl (by decide) (by simp [defCells, Value.oneCell']) (by unfold maxLen; omega) (by omega) ?_; intro g1 cc1 w7 HO7 HG7 HB7 HL7))
                go_roundw
                case rel => exact ⟨k + 1, by omega, by go_num, HM5.out.grown HG7.out (HM5.out.notRow HAL.out.1), by rw [HTF.out, HN.out]; exact row_push HO7.out, HB7.out _ HAL.out.2⟩
                case measure => simp [intOf]; omega
            · obtain rfl : k = F.length := by omega
              rw [List.take_length] at HO
              have hle3 := flatMap_le1 (newOf E) (newOf_len E) F
              have hle4 : (wrongL E F).length ≤ 1000 := by rw [wrongL, List.length_append]; omega
              change Hid (wr.ownsRow w3.heap.size 120 2 _ (wrongL E F).length ((wrongL E F).flatMap defCells)) at HO
              have HBW := Lib.hid (HB3.out.trans (HB.out.mono (Nat.le_of_lt (Nat.lt_trans hlw2 hw23))))
              have HWO := Lib.hid (wrongL_ok H0.out H1.out)
              go_wp2_with fail
              refine (sortD_any _ _ _ _ HO.out hle4 HWO.out).mono ?_
              rintro e w9 ⟨rfl, out, hpm, hsort, hrow, hb9⟩
              have HP : Hid (WrongPost n E F w (.returned (.tuple #[_, .int .i64 0])) w9) := Lib.hid ⟨_, out, by rw [HWF.out], hrow, HBW.out.trans (hb9.mono (Nat.le_of_lt (Nat.lt_trans hlw2 hw23))), fun _ => ⟨hpm, hsort⟩, fun h => absurd HWF.out h⟩
              clear hpm hsort hrow hb9
              go_wp2_with fail
              go_ret2
              exact HP.out
end Go.Proofs.YtnkdcmibafjplaaGreatDoor
