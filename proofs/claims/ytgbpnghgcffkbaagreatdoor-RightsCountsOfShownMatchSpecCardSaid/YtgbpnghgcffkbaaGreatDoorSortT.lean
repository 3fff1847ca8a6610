/-
  slices.SortFunc at tallies, of a row that the call owns.
-/
import Derived.Test.YtgbpnghgcffkbaaGreatDoorTal
import Derived.Test.YtgbpnghgcffkbaaGreatDoorTalSort
import Derived.Shelf.SlSortCmp.NoneTotal
import Derived.Sort.OwnSorted
namespace Go.Proofs.YtgbpnghgcffkbaaGreatDoor
open Go.RowKit Go.Sort
set_option linter.unusedVariables false
set_option linter.unusedSimpArgs false

def GrT (w w' : World) : Prop := ∃ q os', w' = grow (w.drewN q) os'
theorem GrT.refl (w : World) : GrT w w := ⟨0, #[], by rw [grow_empty]; rfl⟩
theorem GrT.drew {w w' : World} (h : GrT w w') : GrT w w'.drew := by obtain ⟨q, os, rfl⟩ := h; exact ⟨q + 1, os, by rw [drew_grow]; rfl⟩
theorem GrT.alloc {w w' : World} (h : GrT w w') (o : Obj) : GrT w (w'.alloc o) := by obtain ⟨q, os, rfl⟩ := h; exact ⟨q, os ++ #[o], by rw [alloc_eq_grow, grow_grow]⟩
theorem GrT.trans {a b c : World} (h : GrT a b) (k : GrT b c) : GrT a c := by
  obtain ⟨q, os, rfl⟩ := h
  obtain ⟨q2, os2, rfl⟩ := k
  exact ⟨q + q2, os ++ os2, by rw [show (grow (a.drewN q) os).drewN q2 = grow ((a.drewN q).drewN q2) os from rfl, grow_grow, World.drewN_drewN]⟩
theorem GrT.below {w w' : World} (h : GrT w w') : Below w.heap.size w w' := by
  obtain ⟨q, os, rfl⟩ := h
  exact ⟨rfl, rfl, rfl, by rw [size_grow]; exact Nat.le_add_right _ _, fun k hk => heap_grow_old (w.drewN q) os hk⟩
theorem holds_id {w : World} {g : Nat} {cur : Array Value} {e : TypeId} {xs : List Value} (hb : w.heap[g]? = some (.cells cur e (0, 0))) (ht : cur.toList.take xs.length = xs) : Holds id w g 0 xs.toArray := by
  intro j hj
  have hj' : j < xs.length := by simpa using hj
  refine ⟨?_, by simp [World.frozen?, hb]⟩
  have h1 : (cur.toList.take xs.length)[j]? = xs[j]? := by rw [ht]
  rw [List.getElem?_take_of_lt hj'] at h1
  simp only [World.cell?, hb, Nat.zero_add]
  simp only [Option.isSome_none, Bool.false_eq_true, if_false]
  rw [← Array.getElem?_toList, h1]
  simp [hj']
theorem heap_sortId {w : World} {g n : Nat} {os : Array Obj} {cur : Array Value} {e : TypeId} {fr : Nat × Nat} (d : Array Value) (hb : w.heap[g]? = some (.cells cur e fr)) :
    (grow (putRow id (Sort.ahead w n) g 0 d) os).heap[g]? = some (.cells (putCells id 0 d cur) e fr) := by
  have hg : g < w.heap.size := (Array.getElem?_eq_some_iff.1 hb).1
  rw [heap_grow_old _ _ (by simpa using hg)]
  simp [putRow, mapBlock, Sort.ahead, Array.getElem?_modify, hb, onCells]
theorem grownBy_sortId {w : World} {g n : Nat} {os : Array Obj} (d : Array Value) : w.grownBy (grow (putRow id (Sort.ahead w n) g 0 d) os) (some g) := by
  refine ⟨rfl, rfl, rfl, by simp, fun k hk hne => ?_⟩
  rw [heap_grow_old _ _ (by simpa using hk)]
  have : g ≠ k := fun e => hne (by rw [e])
  simp [putRow, mapBlock, Sort.ahead, Array.getElem?_modify, this]
theorem take_putId (cur : Array Value) (ts : List Value) (h : ts.length ≤ cur.size) : (putCells id 0 ts.toArray cur).toList.take ts.length = ts := by
  apply List.ext_getElem?
  intro j
  by_cases hj : j < ts.length
  · rw [List.getElem?_take_of_lt hj, Array.getElem?_toList]
    simp [putCells, hj, show j < cur.size by omega]
  · rw [List.getElem?_take_eq_none (by omega), List.getElem?_eq_none (by omega)]
/-- A tally whose number is small. -/
structure Tl where
  key : List UInt8
  many : Fin 3001
deriving Inhabited
def Tl.tal (t : Tl) : Tal := (t.key, (t.many.val : Int))
def tlCells (t : Tl) : List Value := talCells t.tal
theorem tl_of {p : Tal} (h : 0 ≤ p.2 ∧ p.2 ≤ 3000) : ∃ t : Tl, t.tal = p := ⟨⟨p.1, ⟨p.2.toNat, by omega⟩⟩, Prod.ext rfl (by show ((p.2.toNat : Nat) : Int) = p.2; omega)⟩
theorem tls_of : ∀ {L : List Tal}, (∀ p ∈ L, 0 ≤ p.2 ∧ p.2 ≤ 3000) → ∃ M : List Tl, M.map Tl.tal = L
  | [], _ => ⟨[], rfl⟩
  | p :: L, h => by
    obtain ⟨t, ht⟩ := tl_of (h p (by simp))
    obtain ⟨M, hM⟩ := tls_of (L := L) (fun q hq => h q (List.mem_cons_of_mem _ hq))
    exact ⟨t :: M, by rw [List.map_cons, ht, hM]⟩
theorem tl_flat (M : List Tl) : M.flatMap tlCells = (M.map Tl.tal).flatMap talCells := by
  induction M with
  | nil => rfl
  | cons a M ih => rw [List.flatMap_cons, List.map_cons, List.flatMap_cons, ih]; rfl
theorem flatT_get : ∀ (L : List Tl) (t : Nat), t < L.length * 2 → (L.flatMap tlCells)[t]? = (tlCells (L.getD (t / 2) default))[t % 2]?
  | [], t, h => by simp at h
  | d :: L, 0, h => rfl
  | d :: L, 1, h => rfl
  | d :: L, t + 2, h => by
    have ih := flatT_get L t (by simp at h; omega)
    rw [show (t + 2) / 2 = t / 2 + 1 by omega, show (t + 2) % 2 = t % 2 by omega, List.getD_cons_succ, ← ih]
    rfl
theorem flatK_tal (d : Array Tl) : flatK tlCells 2 d = (d.toList.flatMap tlCells).toArray := by
  have hlen : (d.toList.flatMap tlCells).length = d.size * 2 := by
    rw [List.length_flatMap, ← Array.length_toList]
    generalize d.toList = l
    induction l with
    | nil => rfl
    | cons a l ih => rw [List.map_cons, List.sum_cons, ih]; simp [tlCells, talCells]; omega
  refine Array.ext (by rw [size_flatK]; simp [hlen]) fun t h1 h2 => ?_
  rw [size_flatK] at h1
  have h := get_flatK tlCells 2 d t h1
  rw [getElem!_pos _ t (by rw [size_flatK]; exact h1)] at h
  rw [h]
  have hg := flatT_get d.toList t (by rw [Array.length_toList]; exact h1)
  have ht : t / 2 < d.size := by omega
  have hd : d.toList.getD (t / 2) default = d[t / 2]! := by
    rw [getElem!_pos d (t / 2) ht, List.getD_eq_getElem?_getD, List.getElem?_eq_getElem (by simpa using ht)]; rfl
  rw [hd] at hg
  generalize d[t / 2]! = y at *
  have hm : t % 2 < (tlCells y).length := by show t % 2 < 2; omega
  rw [getElem!_pos (tlCells y) (t % 2) hm]
  rw [List.getElem?_eq_getElem hm, List.getElem?_eq_getElem (by rw [hlen]; exact h1)] at hg
  injection hg with hg
  exact hg.symm
def tCmp (x y : Tl) : Int := orL [(y.many.val : Int) - (x.many.val : Int), scmp x.key y.key]
theorem tLt (x y : Tl) : ltOf tCmp x y = tlt x.tal y.tal := by
  have hd : ∀ a b : Bool, (a = true ↔ b = true) → a = b := fun a b h => by cases a <;> cases b <;> simp_all
  apply hd
  show decide (tCmp x y < 0) = true ↔ _
  rw [decide_eq_true_eq, tlt_iff]
  show tCmp x y < 0 ↔ (y.many.val : Int) < (x.many.val : Int) ∨ ((x.many.val : Int) = (y.many.val : Int) ∧ Op.bytesLess x.key y.key = true)
  unfold tCmp orL orL orL
  by_cases e : (y.many.val : Int) - (x.many.val : Int) = 0
  · rw [if_pos e]
    rcases scmp_tri x.key y.key with ⟨h, h1, _, _⟩ | ⟨h, h1, _, _⟩ | ⟨h, h1, _, _⟩
    · rw [h, h1, if_neg (by decide)]
      exact ⟨fun _ => .inr ⟨by omega, rfl⟩, fun _ => by decide⟩
    · rw [h, h1, if_pos rfl]
      exact ⟨fun h => absurd h (by decide), fun h => by rcases h with h | ⟨_, h⟩; omega; cases h⟩
    · rw [h, h1, if_neg (by decide)]
      exact ⟨fun h => absurd h (by decide), fun h => by rcases h with h | ⟨_, h⟩; omega; cases h⟩
  · rw [if_neg e]
    exact ⟨fun h => .inl (by omega), fun h => by rcases h with h | ⟨h, _⟩ <;> omega⟩
theorem tSwo : SWO (ltOf tCmp) where
  irrefl x := by
    rw [tLt]
    cases h : tlt x.tal x.tal with
    | false => rfl
    | true => exact absurd h (tlt_irr _)
  trans x y z h1 h2 := by rw [tLt] at *; exact tlt_trans h1 h2
  ntrans x y z h1 h2 := by
    rw [tLt] at *
    cases h3 : tlt x.tal z.tal with
    | false => rfl
    | true =>
      by_cases e : x.tal = y.tal
      · rw [e] at h3; rw [h3] at h2; cases h2
      · rcases tlt_tot e with q | q
        · rw [q] at h1; cases h1
        · have := tlt_trans q h3
          rw [this] at h2; cases h2
theorem agg_tal (w : World) : (isAgg 51).run Tryz.prog w = .ok true w := by kernel_rfl
theorem size_tal (w : World) : (Go.sizeOf 51).run Tryz.prog w = .ok 2 w := by kernel_rfl
set_option maxRecDepth 100000 in
set_option maxHeartbeats 4000000 in
theorem tClosure (x y : Tl) (w : World) : Calls Tryz.prog 50 #[.agg #[.string (bstr x.key), .int .i64 x.many.val], .agg #[.string (bstr y.key), .int .i64 y.many.val]] w fun e w' => e = .returned (.int .i64 (tCmp x y)) ∧ GrT w w' := by
  have HOV : Hid (IntKind.i64.wrap ((y.many.val : Int) - (x.many.val : Int)) = (y.many.val : Int) - (x.many.val : Int)) := Lib.hid (IntWalk.i64_in _ (by have := x.many.isLt; have := y.many.isLt; omega))
  have HCM : Hid (tCmp x y = orL [(y.many.val : Int) - (x.many.val : Int), scmp x.key y.key]) := Lib.hid rfl
  have HSC := Lib.hid (fun W => strCmp_any x.key y.key W)
  rw [HCM.out]
  clear HCM
  generalize scmp x.key y.key = sc at *
  generalize (x.many.val : Int) = mx at *
  generalize (y.many.val : Int) = my at *
  go_enter Tryz.func50, Tryz.ntmps50
  go_wp2_with fail
  obtain ⟨w2, hw2⟩ : ∃ w2, w2 = (w.alloc (.cells #[.string (bstr x.key), .int .i64 mx] 51)).alloc (.cells #[.string (bstr y.key), .int .i64 my] 51) := ⟨_, rfl⟩
  have HG2 : Hid (GrT w w2) := Lib.hid (by rw [hw2]; exact ((GrT.refl w).alloc _).alloc _)
  have hka : Blk w2 w.heap.size 51 [.string (bstr x.key), .int .i64 mx] := by rw [hw2]; exact Blk.same (Blk.new w 51 [.string (bstr x.key), .int .i64 mx]) (same_below ((Below.refl _ _).alloc (Nat.le_refl _) _)) (by simp)
  have hkb : Blk w2 (w.heap.size + 1) 51 [.string (bstr y.key), .int .i64 my] := by
    rw [hw2]
    have := Blk.new (w.alloc (.cells #[.string (bstr x.key), .int .i64 mx] 51)) 51 [.string (bstr y.key), .int .i64 my]
    rw [World.size_alloc] at this
    exact this
  rw [← hw2]
  clear hw2
  obtain ⟨bx, hbx⟩ : ∃ b, b = w.heap.size := ⟨_, rfl⟩
  obtain ⟨by_, hby⟩ : ∃ b, b = w.heap.size + 1 := ⟨_, rfl⟩
  rw [← hby] at hkb ⊢
  rw [← hbx] at hka ⊢
  clear hbx hby
  have HKA := Lib.hid hka
  have HKB := Lib.hid hkb
  have hla := hka.lt
  have hlb := hkb.lt
  clear hka hkb
  have KEEP : Hid (∀ w', GrT w2 w' → (w'.cell? ⟨bx, 0, none⟩ = some (.string (bstr x.key)) ∧ w'.cell? ⟨bx, 1, none⟩ = some (.int .i64 mx) ∧ w'.cell? ⟨by_, 0, none⟩ = some (.string (bstr y.key)) ∧ w'.cell? ⟨by_, 1, none⟩ = some (.int .i64 my))) := Lib.hid (fun w' hg => ⟨(HKA.out.same (same_below hg.below) hla).cell 0, (HKA.out.same (same_below hg.below) hla).cell 1, (HKB.out.same (same_below hg.below) hlb).cell 0, (HKB.out.same (same_below hg.below) hlb).cell 1⟩)
  refine wp_region_held_drew (S := fun w' => w'.cell? ⟨bx, 0, none⟩ = some (.string (bstr x.key)) ∧ w'.cell? ⟨bx, 1, none⟩ = some (.int .i64 mx) ∧ w'.cell? ⟨by_, 0, none⟩ = some (.string (bstr y.key)) ∧ w'.cell? ⟨by_, 1, none⟩ = some (.int .i64 my)) (by kernel_rfl) (KEEP.out w2 (GrT.refl w2)) (fun hHeld => ?_)
  obtain ⟨w3, hw3⟩ : ∃ w3, w3 = w2.drew := ⟨_, rfl⟩
  have HG3 : Hid (GrT w2 w3) := Lib.hid (by rw [hw3]; exact (GrT.refl w2).drew)
  rw [← hw3] at hHeld ⊢
  clear hw3
  refine wpAnyH_take (i := 0) (v := ?_) rfl (by kernel_rfl) (by kernel_rfl) (by kernel_rfl) (fun _ _ _ h => h) (Or.inl ⟨by rfl, ?_⟩) (by assumption) ?_
  rotate_left
  · (intro w hSw; (try dsimp only at hSw); obtain ⟨hs0, hs1, hs2, hs3⟩ := hSw; go_simp; try with_reducible rfl)
  try simp only [List.getElem_toArray, List.getElem_cons_succ, List.getElem_cons_zero, Act.put, List.setIfInBounds_toArray, List.set_cons_zero, List.set_cons_succ]
  refine wpAnyH_take (i := 1) (v := ?_) rfl (by kernel_rfl) (by kernel_rfl) (by kernel_rfl) (fun _ _ _ h => h) (Or.inl ⟨by rfl, ?_⟩) (by assumption) ?_
  rotate_left
  · (intro w hSw; (try dsimp only at hSw); obtain ⟨hs0, hs1, hs2, hs3⟩ := hSw; go_simp; try with_reducible rfl)
  try simp only [List.getElem_toArray, List.getElem_cons_succ, List.getElem_cons_zero, Act.put, List.setIfInBounds_toArray, List.set_cons_zero, List.set_cons_succ]
  refine wpAnyH_take (i := 2) (v := ?_) rfl (by kernel_rfl) (by kernel_rfl) (by kernel_rfl) (fun _ _ _ h => h) (Or.inl ⟨by rfl, ?_⟩) (by assumption) ?_
  rotate_left
  · (intro w hSw; (try dsimp only at hSw); obtain ⟨hs0, hs1, hs2, hs3⟩ := hSw; go_simp; try with_reducible rfl)
  try simp only [List.getElem_toArray, List.getElem_cons_succ, List.getElem_cons_zero, Act.put, List.setIfInBounds_toArray, List.set_cons_zero, List.set_cons_succ]
  refine wpAnyH_take (i := 3) (v := ?_) rfl (by kernel_rfl) (by kernel_rfl) (by kernel_rfl) (fun _ _ _ h => h) (Or.inl ⟨by rfl, ?_⟩) (by assumption) ?_
  rotate_left
  · (intro w hSw; (try dsimp only at hSw); obtain ⟨hs0, hs1, hs2, hs3⟩ := hSw; go_simp; try with_reducible rfl)
  try simp only [List.getElem_toArray, List.getElem_cons_succ, List.getElem_cons_zero, Act.put, List.setIfInBounds_toArray, List.set_cons_zero, List.set_cons_succ]
  refine wpAnyH_take (i := 4) (v := ?_) rfl (by kernel_rfl) (by kernel_rfl) (by kernel_rfl) (fun _ _ _ h => h) (Or.inl ⟨by rfl, ?_⟩) (by assumption) ?_
  rotate_left
  · (intro w hSw; (try dsimp only at hSw); obtain ⟨hs0, hs1, hs2, hs3⟩ := hSw; go_simp; (try rw [HOV.out]); try with_reducible rfl)
  try simp only [List.getElem_toArray, List.getElem_cons_succ, List.getElem_cons_zero, Act.put, List.setIfInBounds_toArray, List.set_cons_zero, List.set_cons_succ]
  refine wpAnyH_take (i := 5) (v := ?_) rfl (by kernel_rfl) (by kernel_rfl) (by kernel_rfl) (fun _ _ _ h => h) (Or.inl ⟨by rfl, ?_⟩) (by assumption) ?_
  rotate_left
  · (intro w hSw; (try dsimp only at hSw); obtain ⟨hs0, hs1, hs2, hs3⟩ := hSw; go_simp; try with_reducible rfl)
  try simp only [List.getElem_toArray, List.getElem_cons_succ, List.getElem_cons_zero, Act.put, List.setIfInBounds_toArray, List.set_cons_zero, List.set_cons_succ]
  refine wpAnyH_take (i := 6) (v := ?_) rfl (by kernel_rfl) (by kernel_rfl) (by kernel_rfl) (fun _ _ _ h => h) (Or.inl ⟨by rfl, ?_⟩) (by assumption) ?_
  rotate_left
  · (intro w hSw; (try dsimp only at hSw); obtain ⟨hs0, hs1, hs2, hs3⟩ := hSw; go_simp; try with_reducible rfl)
  try simp only [List.getElem_toArray, List.getElem_cons_succ, List.getElem_cons_zero, Act.put, List.setIfInBounds_toArray, List.set_cons_zero, List.set_cons_succ]
  refine wpAnyH_take (i := 7) (v := ?_) rfl (by kernel_rfl) (by kernel_rfl) (by kernel_rfl) (fun _ _ _ h => h) (Or.inl ⟨by rfl, ?_⟩) (by assumption) ?_
  rotate_left
  · (intro w hSw; (try dsimp only at hSw); obtain ⟨hs0, hs1, hs2, hs3⟩ := hSw; go_simp; try with_reducible rfl)
  try simp only [List.getElem_toArray, List.getElem_cons_succ, List.getElem_cons_zero, Act.put, List.setIfInBounds_toArray, List.set_cons_zero, List.set_cons_succ]
  refine wpAnyH_take (i := 8) (v := ?_) rfl (by kernel_rfl) (by kernel_rfl) (by kernel_rfl) (fun _ _ _ h => h) (Or.inl ⟨by rfl, ?_⟩) (by assumption) ?_
  rotate_left
  · (intro w hSw; (try dsimp only at hSw); obtain ⟨hs0, hs1, hs2, hs3⟩ := hSw; go_simp; try with_reducible rfl)
  try simp only [List.getElem_toArray, List.getElem_cons_succ, List.getElem_cons_zero, Act.put, List.setIfInBounds_toArray, List.set_cons_zero, List.set_cons_succ]
  refine wpAnyH_ready (rs := [9]) (by kernel_rfl) (by simp) ?_
  refine AllReadyH.cons rfl (fun K hK => ?_) AllReadyH.nil
  rw [if_pos (by rfl)]
  simp only [List.getElem_toArray, List.getElem_cons_succ, List.getElem_cons_zero]
  go_simp
  go_at_call 52
  refine (HSC.out _).mono ?_
  rintro e w4 ⟨rfl, hw⟩
  subst hw
  show K _ w4
  refine hK.out _ _ (KEEP.out _ HG3.out) (fun hHeld => ?_)
  clear hK K
  try simp only [List.getElem_toArray, List.getElem_cons_succ, List.getElem_cons_zero, Act.put, List.setIfInBounds_toArray, List.set_cons_zero, List.set_cons_succ]
  have HG6 : Hid (GrT w2 (w4.alloc (.cells #[.int .i64 (my - mx), .int .i64 sc] 3))) := Lib.hid (HG3.out.alloc _)
  refine wpAnyH_ready (rs := [10]) (by kernel_rfl) (by simp) ?_
  refine AllReadyH.cons rfl (fun K hK => ?_) AllReadyH.nil
  rw [if_pos (by rfl)]
  simp only [List.getElem_toArray, List.getElem_cons_succ, List.getElem_cons_zero]
  go_simp
  refine hK.out _ _ (KEEP.out _ HG6.out) (fun hHeld => ?_)
  clear hK K
  try simp only [List.getElem_toArray, List.getElem_cons_succ, List.getElem_cons_zero, Act.put, List.setIfInBounds_toArray, List.set_cons_zero, List.set_cons_succ]
  refine wpAnyH_ready (rs := [11]) (by kernel_rfl) (by simp) ?_
  refine AllReadyH.cons rfl (fun K hK => ?_) AllReadyH.nil
  rw [if_pos (by rfl)]
  simp only [List.getElem_toArray, List.getElem_cons_succ, List.getElem_cons_zero]
  go_simp
  go_at_call 51
  refine (orL_any _ [my - mx, sc] 3 2 rfl _ (Blk.new _ _ _) (by simp)).mono ?_
  rintro e wz ⟨rfl, hw⟩
  have HGZ : Hid (GrT w2 wz) := Lib.hid (by rw [hw]; exact HG6.out)
  clear hw
  show K _ wz
  refine hK.out _ _ (KEEP.out _ HGZ.out) (fun hHeld => ?_)
  clear hK K
  try simp only [List.getElem_toArray, List.getElem_cons_succ, List.getElem_cons_zero, Act.put, List.setIfInBounds_toArray, List.set_cons_zero, List.set_cons_succ]
  refine wpAnyH_take (i := 12) (v := ?_) rfl (by kernel_rfl) (by kernel_rfl) (by kernel_rfl) (fun _ _ _ h => h) (Or.inl ⟨by rfl, ?_⟩) (by assumption) ?_
  rotate_left
  · (intro w hSw; (try dsimp only at hSw); obtain ⟨hs0, hs1, hs2, hs3⟩ := hSw; go_simp; try with_reducible rfl)
  try simp only [List.getElem_toArray, List.getElem_cons_succ, List.getElem_cons_zero, Act.put, List.setIfInBounds_toArray, List.set_cons_zero, List.set_cons_succ]
  refine wpAnyH_done (by kernel_rfl) ?_ _
  go_wp2_with fail
  go_ret
  exact ⟨rfl, HG2.out.trans HGZ.out⟩
theorem sortL_any (v : Value) (L : List Tl) (B : Nat) (w : World) (hO : w.ownsRow B 51 2 v L.length (L.flatMap tlCells)) (hL : L.length ≤ 3000) :
    Calls Tryz.prog 49 #[v, .func (.func 50) #[] #[]] w fun e w' =>
      e = .returned (.tuple #[]) ∧ ∃ out : List Tl, out.Perm L ∧ out.Pairwise (fun x y => tlt y.tal x.tal = false) ∧ w'.ownsRow B 51 2 v out.length (out.flatMap tlCells) ∧ Below B w w' := by
  have hO' := hO
  obtain ⟨hlen, hO⟩ := hO
  by_cases h0 : L.length = 0
  · obtain rfl : L = [] := List.length_eq_zero_iff.1 h0
    have hv : ∃ p c, v = .slice p 0 c := by
      rcases hO with ⟨rfl, _⟩ | ⟨g, cap, cur, rfl, _⟩
      · exact ⟨_, _, rfl⟩
      · exact ⟨_, _, rfl⟩
    obtain ⟨p, c, rfl⟩ := hv
    have hn := AnyF.slices_SortFunc_none talSort p c (.func (.func 50) #[] #[]) w
    refine Calls.mono hn ?_
    rintro e w' ⟨rfl, rfl⟩
    exact ⟨rfl, [], List.Perm.refl _, List.Pairwise.nil, hO', Below.refl _ _⟩
  · rcases hO with ⟨_, h⟩ | ⟨g, cap, cur, rfl, hBg, hg, hnc, hcm, hcs, htk⟩
    · exact absurd h h0
    have hgl : g < w.heap.size := (Array.getElem?_eq_some_iff.1 hg).1
    have hxl : (L.flatMap tlCells).length = L.length * 2 := hlen
    have hH : HoldsK tlCells 2 w g 0 L.toArray := by
      unfold HoldsK
      rw [flatK_tal]
      exact holds_id hg (by rw [hxl]; exact htk)
    have hcmp : CmpLays Tryz.prog 50 #[] tlCells 2 tCmp g 0 L.toArray.size w := fun _ _ _ _ x y => tClosure x y _
    have eg : ∀ args w, (callFunc 50 args).run Tryz.prog w = .ok (.enter 50 args) w := enters_of Tryz.func50 (by kernel_rfl) rfl
    have hcon := AnyQ.slices_SortFunc talSort 2 agg_tal size_tal tlCells (fun _ => rfl) (fun x v hv => by simp [tlCells, talCells] at hv; rcases hv with rfl | rfl <;> rfl) tCmp tSwo 50 #[] g 0 cap L.toArray w eg hcmp hH hgl (by simp; omega)
    refine Calls.mono (show Calls Tryz.prog 49 #[.slice (some ⟨g, 0, none⟩) L.length cap, .func (.func 50) #[] #[]] w _ from hcon) ?_
    rintro e w' ⟨rfl, d', n, os, ⟨hs, _, hperm⟩, hsort, rfl⟩
    have hs' : d'.toList.length = L.length := by simpa using hs
    have hpm : d'.toList.Perm L := by
      have := hperm
      simpa [Array.extract_eq_self_of_le, hs] using this
    refine ⟨rfl, d'.toList, hpm, ?_, ?_, ?_⟩
    · rw [List.pairwise_iff_getElem]
      intro i j hi hj hij
      have := hsort i j (Nat.zero_le _) hij (by rw [hs'] at hj; simpa using hj)
      rw [tLt] at this
      rw [getElem!_pos d' i (by simpa using hi), getElem!_pos d' j (by simpa using hj)] at this
      simpa using this
    · have hl2 : (d'.toList.flatMap tlCells).length = L.length * 2 := by
        have h := congrArg Array.size (flatK_tal d')
        rw [size_flatK] at h
        simp only [List.size_toArray] at h
        rw [← h, hs]; simp
      have hown : (sortWorldK tlCells 2 w g 0 n d' os).ownsRow B 51 2 (.slice (some ⟨g, 0, none⟩) L.length cap) L.length (d'.toList.flatMap tlCells) := by
        unfold sortWorldK putRowK
        rw [flatK_tal]
        exact ⟨hl2, .inr ⟨g, cap, _, rfl, hBg, heap_sortId _ hg, hnc, hcm, by simp [putCells, hcs], by rw [← hl2]; exact take_putId cur _ (by rw [hl2, hcs]; exact Nat.mul_le_mul_right _ hnc)⟩⟩
      have e : L.length = d'.toList.length := hs'.symm
      rw [e] at hown ⊢
      exact hown
    · unfold sortWorldK putRowK
      exact (Below.refl B w).grown (grownBy_sortId _) (Nat.le_of_lt (Nat.lt_of_le_of_lt hBg hgl)) (fun k e => by injection e with e; omega)
theorem sortT_any (v : Value) (ts : List Tal) (B : Nat) (w : World) (hO : w.ownsRow B 51 2 v ts.length (ts.flatMap talCells)) (hL : ts.length ≤ 3000) (hp : ∀ p ∈ ts, p.1.length ≤ maxLen ∧ 0 ≤ p.2 ∧ p.2 ≤ 3000) :
    Calls Tryz.prog 49 #[v, .func (.func 50) #[] #[]] w fun e w' =>
      e = .returned (.tuple #[]) ∧ ∃ out : List Tal, out.Perm ts ∧ (ts.Nodup → out.Pairwise (fun a b => tlt a b = true)) ∧ (Rp.sl talRp).ok w' (· < w'.heap.size) [v] out ∧ Below B w w' := by
  obtain ⟨M, rfl⟩ := tls_of (L := ts) (fun p h => (hp p h).2)
  rw [← tl_flat, List.length_map] at hO
  refine (sortL_any v M B w hO (by simpa using hL)).mono ?_
  rintro e w' ⟨rfl, out, hpm, hs, ho, hb⟩
  have hpm2 : (out.map Tl.tal).Perm (M.map Tl.tal) := hpm.map _
  refine ⟨rfl, out.map Tl.tal, hpm2, fun hnd => ?_, ?_, hb⟩
  · have hnd2 : (out.map Tl.tal).Nodup := hpm2.nodup_iff.2 hnd
    rw [List.pairwise_map]
    rw [List.Nodup, List.pairwise_map] at hnd2
    exact (hs.and hnd2).imp (fun {a b} h => by
      rcases tlt_tot h.2 with q | q
      · exact q
      · rw [h.1] at q; cases q)
  · rw [tl_flat] at ho
    have hl : out.length = (out.map Tl.tal).length := by simp
    exact tals_read ho (fun p hp2 => by
      have h := hp p (hpm2.mem_iff.1 hp2)
      have hm : IntKind.i64.min = -9223372036854775808 := by rfl
      refine ⟨h.1, ?_⟩
      simp [Lit.wf, hm]
      omega)
end Go.Proofs.YtgbpnghgcffkbaaGreatDoor
