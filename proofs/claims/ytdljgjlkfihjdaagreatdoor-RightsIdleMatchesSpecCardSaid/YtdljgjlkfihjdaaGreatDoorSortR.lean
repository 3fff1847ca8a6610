/-
  slices.SortFunc at rights by the moments from which they hold, of a row that the call owns.
-/
import Derived.Test.YtdljgjlkfihjdaaGreatDoorConc
import Derived.Test.YtdljgjlkfihjdaaGreatDoorRights
import Derived.Test.YtdljgjlkfihjdaaGreatDoorRgtSort
import Derived.Shelf.SlSortCmp.NoneTotal
import Derived.Sort.OwnSorted
namespace Go.Proofs.YtdljgjlkfihjdaaGreatDoor
open Go.RowKit Go.Sort
set_option linter.unusedVariables false
set_option linter.unusedSimpArgs false

def GrT (w w' : World) : Prop := ∃ q os', w' = grow (w.drewN q) os'
theorem GrT.refl (w : World) : GrT w w := ⟨0, #[], by rw [grow_empty]; rfl⟩
theorem GrT.drew {w w' : World} (h : GrT w w') : GrT w w'.drew := by obtain ⟨q, os, rfl⟩ := h; exact ⟨q + 1, os, by rw [drew_grow]; rfl⟩
theorem GrT.alloc {w w' : World} (h : GrT w w') (o : Obj) : GrT w (w'.alloc o) := by obtain ⟨q, os, rfl⟩ := h; exact ⟨q, os ++ #[o], by rw [alloc_eq_grow, grow_grow]⟩
theorem GrT.trans {a b c : World} (h : GrT a b) (k : GrT b c) : GrT a c := by
  obtain ⟨q, os, rfl⟩ := h
  obtain ⟨q2, os2, rfl⟩ := k
  exact ⟨q + q2, os ++ os2, by rw [show (grow (a.drewN q) os).drewN q2 = grow ((a.drewN q).drewN q2) os from rfl, grow_grow, World.drewN_drewN]⟩
theorem GrT.below {w w' : World} (h : GrT w w') : Below w.heap.size w w' := by
  obtain ⟨q, os, rfl⟩ := h
  exact ⟨rfl, rfl, rfl, by rw [size_grow]; exact Nat.le_add_right _ _, fun k hk => heap_grow_old (w.drewN q) os hk⟩
theorem holds_id {w : World} {g : Nat} {cur : Array Value} {e : TypeId} {xs : List Value} (hb : w.heap[g]? = some (.cells cur e (0, 0))) (ht : cur.toList.take xs.length = xs) : Holds id w g 0 xs.toArray := by
  intro j hj
  have hj' : j < xs.length := by simpa using hj
  refine ⟨?_, by simp [World.frozen?, hb]⟩
  have h1 : (cur.toList.take xs.length)[j]? = xs[j]? := by rw [ht]
  rw [List.getElem?_take_of_lt hj'] at h1
  simp only [World.cell?, hb, Nat.zero_add]
  simp only [Option.isSome_none, Bool.false_eq_true, if_false]
  rw [← Array.getElem?_toList, h1]
  simp [hj']
theorem heap_sortId {w : World} {g n : Nat} {os : Array Obj} {cur : Array Value} {e : TypeId} {fr : Nat × Nat} (d : Array Value) (hb : w.heap[g]? = some (.cells cur e fr)) :
    (grow (putRow id (Sort.ahead w n) g 0 d) os).heap[g]? = some (.cells (putCells id 0 d cur) e fr) := by
  have hg : g < w.heap.size := (Array.getElem?_eq_some_iff.1 hb).1
  rw [heap_grow_old _ _ (by simpa using hg)]
  simp [putRow, mapBlock, Sort.ahead, Array.getElem?_modify, hb, onCells]
theorem grownBy_sortId {w : World} {g n : Nat} {os : Array Obj} (d : Array Value) : w.grownBy (grow (putRow id (Sort.ahead w n) g 0 d) os) (some g) := by
  refine ⟨rfl, rfl, rfl, by simp, fun k hk hne => ?_⟩
  rw [heap_grow_old _ _ (by simpa using hk)]
  have : g ≠ k := fun e => hne (by rw [e])
  simp [putRow, mapBlock, Sort.ahead, Array.getElem?_modify, this]
theorem take_putId (cur : Array Value) (ts : List Value) (h : ts.length ≤ cur.size) : (putCells id 0 ts.toArray cur).toList.take ts.length = ts := by
  apply List.ext_getElem?
  intro j
  by_cases hj : j < ts.length
  · rw [List.getElem?_take_of_lt hj, Array.getElem?_toList]
    simp [putCells, hj, show j < cur.size by omega]
  · rw [List.getElem?_take_eq_none (by omega), List.getElem?_eq_none (by omega)]
/-- A right whose moments are small. -/
structure Rb where
  id : List UInt8
  pre : List UInt8
  frm : Int
  to : Int
  st : Fin 253402300801
  en : Int
  made : Fin 253402300801
  kind : Int
  team : List UInt8
deriving Inhabited
def Rb.rgt (t : Rb) : Rgt := ⟨t.id, t.pre, t.frm, t.to, (t.st.val : Int), t.en, (t.made.val : Int), t.kind, t.team⟩
def rbCells (t : Rb) : List Value := rgtCells t.rgt
theorem rb_of {p : Rgt} (h : (0 ≤ p.st ∧ p.st ≤ 253402300800) ∧ 0 ≤ p.made ∧ p.made ≤ 253402300800) : ∃ t : Rb, t.rgt = p := by
  obtain ⟨id, pre, frm, to, st, en, made, kind, team⟩ := p
  dsimp only at h
  refine ⟨⟨id, pre, frm, to, ⟨st.toNat, by omega⟩, en, ⟨made.toNat, by omega⟩, kind, team⟩, ?_⟩
  show Rgt.mk id pre frm to ((st.toNat : Nat) : Int) en ((made.toNat : Nat) : Int) kind team = _
  rw [Int.toNat_of_nonneg h.1.1, Int.toNat_of_nonneg h.2.1]
theorem rbs_of : ∀ {L : List Rgt}, (∀ p ∈ L, (0 ≤ p.st ∧ p.st ≤ 253402300800) ∧ 0 ≤ p.made ∧ p.made ≤ 253402300800) → ∃ M : List Rb, M.map Rb.rgt = L
  | [], _ => ⟨[], rfl⟩
  | p :: L, h => by
    obtain ⟨t, ht⟩ := rb_of (h p (by simp))
    obtain ⟨M, hM⟩ := rbs_of (L := L) (fun q hq => h q (List.mem_cons_of_mem _ hq))
    exact ⟨t :: M, by rw [List.map_cons, ht, hM]⟩
theorem rb_flat (M : List Rb) : M.flatMap rbCells = (M.map Rb.rgt).flatMap rgtCells := by
  induction M with
  | nil => rfl
  | cons a M ih => rw [List.flatMap_cons, List.map_cons, List.flatMap_cons, ih]; rfl
theorem flatT_get : ∀ (L : List Rb) (t : Nat), t < L.length * 9 → (L.flatMap rbCells)[t]? = (rbCells (L.getD (t / 9) default))[t % 9]?
  | [], t, h => by simp at h
  | d :: L, 0, h => rfl
  | d :: L, 1, h => rfl
  | d :: L, 2, h => rfl
  | d :: L, 3, h => rfl
  | d :: L, 4, h => rfl
  | d :: L, 5, h => rfl
  | d :: L, 6, h => rfl
  | d :: L, 7, h => rfl
  | d :: L, 8, h => rfl
  | d :: L, t + 9, h => by
    have ih := flatT_get L t (by simp at h; omega)
    rw [show (t + 9) / 9 = t / 9 + 1 by omega, show (t + 9) % 9 = t % 9 by omega, List.getD_cons_succ, ← ih]
    rfl
theorem flatK_rb (d : Array Rb) : flatK rbCells 9 d = (d.toList.flatMap rbCells).toArray := by
  have hlen : (d.toList.flatMap rbCells).length = d.size * 9 := by
    rw [List.length_flatMap, ← Array.length_toList]
    generalize d.toList = l
    induction l with
    | nil => rfl
    | cons a l ih => rw [List.map_cons, List.sum_cons, ih]; simp [rbCells, rgtCells]; omega
  refine Array.ext (by rw [size_flatK]; simp [hlen]) fun t h1 h2 => ?_
  rw [size_flatK] at h1
  have h := get_flatK rbCells 9 d t h1
  rw [getElem!_pos _ t (by rw [size_flatK]; exact h1)] at h
  rw [h]
  have hg := flatT_get d.toList t (by rw [Array.length_toList]; exact h1)
  have ht : t / 9 < d.size := by omega
  have hd : d.toList.getD (t / 9) default = d[t / 9]! := by
    rw [getElem!_pos d (t / 9) ht, List.getD_eq_getElem?_getD, List.getElem?_eq_getElem (by simpa using ht)]; rfl
  rw [hd] at hg
  generalize d[t / 9]! = y at *
  have hm : t % 9 < (rbCells y).length := by show t % 9 < 9; omega
  rw [getElem!_pos (rbCells y) (t % 9) hm]
  rw [List.getElem?_eq_getElem hm, List.getElem?_eq_getElem (by rw [hlen]; exact h1)] at hg
  injection hg with hg
  exact hg.symm
set_option maxRecDepth 100000 in
set_option maxHeartbeats 1000000 in
theorem from_gr (r : Rgt) (w : World) : Calls Tryz.prog 11 #[.agg #[.string (bstr r.id), .string (bstr r.pre), .int .i64 r.frm, .int .i64 r.to, .int .i64 r.st, .int .i64 r.en, .int .i64 r.made, .int .i64 r.kind, .string (bstr r.team)]] w fun e w' => e = .returned (.int .i64 (fromI r)) ∧ GrT w w' := by
  have HB := Lib.hid ((GrT.refl w).alloc (.cells #[.string (bstr r.id), .string (bstr r.pre), .int .i64 r.frm, .int .i64 r.to, .int .i64 r.st, .int .i64 r.en, .int .i64 r.made, .int .i64 r.kind, .string (bstr r.team)] 38))
  have hkb := Blk.new w 38 (rgtCells r)
  have m4 : (w.alloc (.cells #[.string (bstr r.id), .string (bstr r.pre), .int .i64 r.frm, .int .i64 r.to, .int .i64 r.st, .int .i64 r.en, .int .i64 r.made, .int .i64 r.kind, .string (bstr r.team)] 38)).cell? ⟨w.heap.size, 4, none⟩ = some (.int .i64 r.st) := hkb.cell 4
  have m6 : (w.alloc (.cells #[.string (bstr r.id), .string (bstr r.pre), .int .i64 r.frm, .int .i64 r.to, .int .i64 r.st, .int .i64 r.en, .int .i64 r.made, .int .i64 r.kind, .string (bstr r.team)] 38)).cell? ⟨w.heap.size, 6, none⟩ = some (.int .i64 r.made) := hkb.cell 6
  clear hkb
  have HF : Hid (fromI r = max r.st r.made) := Lib.hid rfl
  go_enter Tryz.func11, Tryz.ntmps11
  go_wp2_with fail
  go_ret
  exact ⟨by rw [HF.out]; rfl, HB.out⟩
def rCmp (x y : Rb) : Int := fromI x.rgt - fromI y.rgt
theorem rLt (x y : Rb) : ltOf rCmp x y = decide (fromI x.rgt < fromI y.rgt) := by
  show decide (rCmp x y < 0) = _
  unfold rCmp
  exact decide_eq_decide.2 (by omega)
theorem rSwo : SWO (ltOf rCmp) where
  irrefl x := by rw [rLt]; exact decide_eq_false (by omega)
  trans x y z h1 h2 := by rw [rLt, decide_eq_true_eq] at *; omega
  ntrans x y z h1 h2 := by rw [rLt, decide_eq_false_iff_not] at *; omega
theorem agg_rgt (w : World) : (isAgg 38).run Tryz.prog w = .ok true w := by kernel_rfl
theorem size_rgt (w : World) : (Go.sizeOf 38).run Tryz.prog w = .ok 9 w := by kernel_rfl
set_option maxRecDepth 100000 in
set_option maxHeartbeats 4000000 in
theorem rClosure (x y : Rb) (w : World) : Calls Tryz.prog 53 #[.agg (rbCells x).toArray, .agg (rbCells y).toArray] w fun e w' => e = .returned (.int .i64 (rCmp x y)) ∧ GrT w w' := by
  have HOV : Hid (IntKind.i64.wrap (fromI x.rgt - fromI y.rgt) = fromI x.rgt - fromI y.rgt) := Lib.hid (IntWalk.i64_in _ (by unfold fromI Rb.rgt; dsimp only; have := x.st.isLt; have := y.st.isLt; have := x.made.isLt; have := y.made.isLt; omega))
  have HCM : Hid (rCmp x y = fromI x.rgt - fromI y.rgt) := Lib.hid rfl
  have HFX := Lib.hid (fun W => from_gr x.rgt W)
  have HFY := Lib.hid (fun W => from_gr y.rgt W)
  rw [HCM.out]
  clear HCM
  show Calls Tryz.prog 53 #[.agg (rgtCells x.rgt).toArray, .agg (rgtCells y.rgt).toArray] w _
  generalize x.rgt = a at *
  generalize y.rgt = b at *
  unfold rgtCells
  go_enter Tryz.func53, Tryz.ntmps53
  go_wp2_with fail
  obtain ⟨w2, hw2⟩ : ∃ w2, w2 = (w.alloc (.cells #[.string (bstr a.id), .string (bstr a.pre), .int .i64 a.frm, .int .i64 a.to, .int .i64 a.st, .int .i64 a.en, .int .i64 a.made, .int .i64 a.kind, .string (bstr a.team)] 38)).alloc (.cells #[.string (bstr b.id), .string (bstr b.pre), .int .i64 b.frm, .int .i64 b.to, .int .i64 b.st, .int .i64 b.en, .int .i64 b.made, .int .i64 b.kind, .string (bstr b.team)] 38) := ⟨_, rfl⟩
  have HG2 : Hid (GrT w w2) := Lib.hid (by rw [hw2]; exact ((GrT.refl w).alloc _).alloc _)
  have hka : Blk w2 w.heap.size 38 (rgtCells a) := by rw [hw2]; exact Blk.same (Blk.new w 38 (rgtCells a)) (same_below ((Below.refl _ _).alloc (Nat.le_refl _) _)) (by simp)
  have hkb : Blk w2 (w.heap.size + 1) 38 (rgtCells b) := by
    rw [hw2]
    have := Blk.new (w.alloc (.cells #[.string (bstr a.id), .string (bstr a.pre), .int .i64 a.frm, .int .i64 a.to, .int .i64 a.st, .int .i64 a.en, .int .i64 a.made, .int .i64 a.kind, .string (bstr a.team)] 38)) 38 (rgtCells b)
    rw [World.size_alloc] at this
    exact this
  rw [← hw2]
  clear hw2
  obtain ⟨bx, hbx⟩ : ∃ b, b = w.heap.size := ⟨_, rfl⟩
  obtain ⟨by_, hby⟩ : ∃ b, b = w.heap.size + 1 := ⟨_, rfl⟩
  rw [← hby] at hkb ⊢
  rw [← hbx] at hka ⊢
  clear hbx hby
  have HKA := Lib.hid hka
  have HKB := Lib.hid hkb
  clear hka hkb
  refine wp_region_held_drew (S := fun w' => Below w2.heap.size w2 w') (by kernel_rfl) (Below.drew (Below.refl _ _)) (fun hHeld0 => ?_)
  obtain ⟨wq, hwq⟩ : ∃ wq, wq = World.drew w2 := ⟨_, rfl⟩
  have hHeld : Below w2.heap.size w2 wq := by rw [hwq]; exact Below.drew (Below.refl _ _)
  have HGQ : Hid (GrT w2 wq) := Lib.hid (by rw [hwq]; exact (GrT.refl w2).drew)
  rw [← hwq] at hHeld0 ⊢
  clear hHeld0 hwq
  refine wpAnyH_take (i := 0) (v := ?_) rfl (by kernel_rfl) (by kernel_rfl) (by kernel_rfl) (fun _ _ _ h => h) (Or.inl ⟨by rfl, ?_⟩) (by assumption) ?_
  rotate_left
  · (intro w hSw; have q0 : w.cell? ⟨bx, 0, none⟩ = some (.string (bstr a.id)) := (hSw.cell (p := ⟨bx, 0, none⟩) HKA.out.lt).trans (HKA.out.cell 0); have q1 : w.cell? ⟨bx, 1, none⟩ = some (.string (bstr a.pre)) := (hSw.cell (p := ⟨bx, 1, none⟩) HKA.out.lt).trans (HKA.out.cell 1); have q2 : w.cell? ⟨bx, 2, none⟩ = some (.int .i64 a.frm) := (hSw.cell (p := ⟨bx, 2, none⟩) HKA.out.lt).trans (HKA.out.cell 2); have q3 : w.cell? ⟨bx, 3, none⟩ = some (.int .i64 a.to) := (hSw.cell (p := ⟨bx, 3, none⟩) HKA.out.lt).trans (HKA.out.cell 3); have q4 : w.cell? ⟨bx, 4, none⟩ = some (.int .i64 a.st) := (hSw.cell (p := ⟨bx, 4, none⟩) HKA.out.lt).trans (HKA.out.cell 4); have q5 : w.cell? ⟨bx, 5, none⟩ = some (.int .i64 a.en) := (hSw.cell (p := ⟨bx, 5, none⟩) HKA.out.lt).trans (HKA.out.cell 5); have q6 : w.cell? ⟨bx, 6, none⟩ = some (.int .i64 a.made) := (hSw.cell (p := ⟨bx, 6, none⟩) HKA.out.lt).trans (HKA.out.cell 6); have q7 : w.cell? ⟨bx, 7, none⟩ = some (.int .i64 a.kind) := (hSw.cell (p := ⟨bx, 7, none⟩) HKA.out.lt).trans (HKA.out.cell 7); have q8 : w.cell? ⟨bx, 8, none⟩ = some (.string (bstr a.team)) := (hSw.cell (p := ⟨bx, 8, none⟩) HKA.out.lt).trans (HKA.out.cell 8); go_simp; try with_reducible rfl)
  try simp only [List.getElem_toArray, List.getElem_cons_succ, List.getElem_cons_zero, Act.put, List.setIfInBounds_toArray, List.set_cons_zero, List.set_cons_succ]
  refine wpAnyH_take (i := 2) (v := ?_) rfl (by kernel_rfl) (by kernel_rfl) (by kernel_rfl) (fun _ _ _ h => h) (Or.inl ⟨by rfl, ?_⟩) (by assumption) ?_
  rotate_left
  · (intro w hSw; have q0 : w.cell? ⟨by_, 0, none⟩ = some (.string (bstr b.id)) := (hSw.cell (p := ⟨by_, 0, none⟩) HKB.out.lt).trans (HKB.out.cell 0); have q1 : w.cell? ⟨by_, 1, none⟩ = some (.string (bstr b.pre)) := (hSw.cell (p := ⟨by_, 1, none⟩) HKB.out.lt).trans (HKB.out.cell 1); have q2 : w.cell? ⟨by_, 2, none⟩ = some (.int .i64 b.frm) := (hSw.cell (p := ⟨by_, 2, none⟩) HKB.out.lt).trans (HKB.out.cell 2); have q3 : w.cell? ⟨by_, 3, none⟩ = some (.int .i64 b.to) := (hSw.cell (p := ⟨by_, 3, none⟩) HKB.out.lt).trans (HKB.out.cell 3); have q4 : w.cell? ⟨by_, 4, none⟩ = some (.int .i64 b.st) := (hSw.cell (p := ⟨by_, 4, none⟩) HKB.out.lt).trans (HKB.out.cell 4); have q5 : w.cell? ⟨by_, 5, none⟩ = some (.int .i64 b.en) := (hSw.cell (p := ⟨by_, 5, none⟩) HKB.out.lt).trans (HKB.out.cell 5); have q6 : w.cell? ⟨by_, 6, none⟩ = some (.int .i64 b.made) := (hSw.cell (p := ⟨by_, 6, none⟩) HKB.out.lt).trans (HKB.out.cell 6); have q7 : w.cell? ⟨by_, 7, none⟩ = some (.int .i64 b.kind) := (hSw.cell (p := ⟨by_, 7, none⟩) HKB.out.lt).trans (HKB.out.cell 7); have q8 : w.cell? ⟨by_, 8, none⟩ = some (.string (bstr b.team)) := (hSw.cell (p := ⟨by_, 8, none⟩) HKB.out.lt).trans (HKB.out.cell 8); go_simp; try with_reducible rfl)
  try simp only [List.getElem_toArray, List.getElem_cons_succ, List.getElem_cons_zero, Act.put, List.setIfInBounds_toArray, List.set_cons_zero, List.set_cons_succ]
  refine wpAnyH_ready (rs := [1]) (by kernel_rfl) (by simp) ?_
  refine AllReadyH.cons rfl (fun K hK => ?_) AllReadyH.nil
  rw [if_pos (by rfl)]
  simp only [List.getElem_toArray, List.getElem_cons_succ, List.getElem_cons_zero]
  go_simp
  go_at_call 11
  refine (HFX.out _).mono ?_
  rintro e w3 ⟨rfl, hg⟩
  have HG3 := Lib.hid (HGQ.out.trans hg)
  have hh := ext_trans hHeld hg.below
  show K _ w3
  refine hK.out _ _ hh (fun hHeld0 => ?_)
  clear hK K hHeld0 hg
  have hHeldw3 := hh
  clear hh
  try simp only [List.getElem_toArray, List.getElem_cons_succ, List.getElem_cons_zero, Act.put, List.setIfInBounds_toArray, List.set_cons_zero, List.set_cons_succ]
  refine wpAnyH_ready (rs := [3]) (by kernel_rfl) (by simp) ?_
  refine AllReadyH.cons rfl (fun K hK => ?_) AllReadyH.nil
  rw [if_pos (by rfl)]
  simp only [List.getElem_toArray, List.getElem_cons_succ, List.getElem_cons_zero]
  go_simp
  go_at_call 11
  refine (HFY.out _).mono ?_
  rintro e w4 ⟨rfl, hg⟩
  have HGZ := Lib.hid (HG3.out.trans hg)
  have hh := ext_trans hHeldw3 hg.below
  show K _ w4
  refine hK.out _ _ hh (fun hHeld0 => ?_)
  clear hK K hHeld0 hg
  have hHeldw4 := hh
  clear hh
  try simp only [List.getElem_toArray, List.getElem_cons_succ, List.getElem_cons_zero, Act.put, List.setIfInBounds_toArray, List.set_cons_zero, List.set_cons_succ]
  refine wpAnyH_take (i := 4) (v := ?_) rfl (by kernel_rfl) (by kernel_rfl) (by kernel_rfl) (fun _ _ _ h => h) (Or.inl ⟨by rfl, ?_⟩) (by assumption) ?_
  rotate_left
  · (intro w hSw; go_simp; (try rw [HOV.out]); try with_reducible rfl)
  try simp only [List.getElem_toArray, List.getElem_cons_succ, List.getElem_cons_zero, Act.put, List.setIfInBounds_toArray, List.set_cons_zero, List.set_cons_succ]
  refine wpAnyH_take (i := 5) (v := ?_) rfl (by kernel_rfl) (by kernel_rfl) (by kernel_rfl) (fun _ _ _ h => h) (Or.inl ⟨by rfl, ?_⟩) (by assumption) ?_
  rotate_left
  · (intro w hSw; go_simp; try with_reducible rfl)
  try simp only [List.getElem_toArray, List.getElem_cons_succ, List.getElem_cons_zero, Act.put, List.setIfInBounds_toArray, List.set_cons_zero, List.set_cons_succ]
  refine wpAnyH_done (by kernel_rfl) ?_ _
  go_wp2_with fail
  go_ret
  exact ⟨rfl, HG2.out.trans HGZ.out⟩
theorem sortR_any (v : Value) (L : List Rb) (B : Nat) (w : World) (hO : w.ownsRow B 38 9 v L.length (L.flatMap rbCells)) (hL : L.length ≤ 3000) :
    Calls Tryz.prog 52 #[v, .func (.func 53) #[] #[]] w fun e w' =>
      e = .returned (.tuple #[]) ∧ ∃ out : List Rb, out.Perm L ∧ out.Pairwise (fun x y => fromI x.rgt ≤ fromI y.rgt) ∧ w'.ownsRow B 38 9 v out.length (out.flatMap rbCells) ∧ Below B w w' := by
  have hO' := hO
  obtain ⟨hlen, hO⟩ := hO
  by_cases h0 : L.length = 0
  · obtain rfl : L = [] := List.length_eq_zero_iff.1 h0
    have hv : ∃ p c, v = .slice p 0 c := by
      rcases hO with ⟨rfl, _⟩ | ⟨g, cap, cur, rfl, _⟩
      · exact ⟨_, _, rfl⟩
      · exact ⟨_, _, rfl⟩
    obtain ⟨p, c, rfl⟩ := hv
    have hn := AnyF.slices_SortFunc_none rgtSort p c (.func (.func 53) #[] #[]) w
    refine Calls.mono hn ?_
    rintro e w' ⟨rfl, rfl⟩
    exact ⟨rfl, [], List.Perm.refl _, List.Pairwise.nil, hO', Below.refl _ _⟩
  · rcases hO with ⟨_, h⟩ | ⟨g, cap, cur, rfl, hBg, hg, hnc, hcm, hcs, htk⟩
    · exact absurd h h0
    have hgl : g < w.heap.size := (Array.getElem?_eq_some_iff.1 hg).1
    have hxl : (L.flatMap rbCells).length = L.length * 9 := hlen
    have hH : HoldsK rbCells 9 w g 0 L.toArray := by
      unfold HoldsK
      rw [flatK_rb]
      exact holds_id hg (by rw [hxl]; exact htk)
    have hcmp : CmpLays Tryz.prog 53 #[] rbCells 9 rCmp g 0 L.toArray.size w := fun _ _ _ _ x y => rClosure x y _
    have eg : ∀ args w, (callFunc 53 args).run Tryz.prog w = .ok (.enter 53 args) w := enters_of Tryz.func53 (by kernel_rfl) rfl
    have hcon := AnyQ.slices_SortFunc rgtSort 9 agg_rgt size_rgt rbCells (fun _ => rfl) (fun x v hv => by simp [rbCells, rgtCells] at hv; rcases hv with rfl | rfl | rfl | rfl | rfl | rfl | rfl | rfl | rfl <;> rfl) rCmp rSwo 53 #[] g 0 cap L.toArray w eg hcmp hH hgl (by simp; omega)
    refine Calls.mono (show Calls Tryz.prog 52 #[.slice (some ⟨g, 0, none⟩) L.length cap, .func (.func 53) #[] #[]] w _ from hcon) ?_
    rintro e w' ⟨rfl, d', n, os, ⟨hs, _, hperm⟩, hsort, rfl⟩
    have hs' : d'.toList.length = L.length := by simpa using hs
    have hpm : d'.toList.Perm L := by
      have := hperm
      simpa [Array.extract_eq_self_of_le, hs] using this
    refine ⟨rfl, d'.toList, hpm, ?_, ?_, ?_⟩
    · rw [List.pairwise_iff_getElem]
      intro i j hi hj hij
      have := hsort i j (Nat.zero_le _) hij (by rw [hs'] at hj; simpa using hj)
      rw [rLt, decide_eq_false_iff_not] at this
      rw [getElem!_pos d' i (by simpa using hi), getElem!_pos d' j (by simpa using hj)] at this
      simp at this ⊢
      omega
    · have hl2 : (d'.toList.flatMap rbCells).length = L.length * 9 := by
        have h := congrArg Array.size (flatK_rb d')
        rw [size_flatK] at h
        simp only [List.size_toArray] at h
        rw [← h, hs]; simp
      have hown : (sortWorldK rbCells 9 w g 0 n d' os).ownsRow B 38 9 (.slice (some ⟨g, 0, none⟩) L.length cap) L.length (d'.toList.flatMap rbCells) := by
        unfold sortWorldK putRowK
        rw [flatK_rb]
        exact ⟨hl2, .inr ⟨g, cap, _, rfl, hBg, heap_sortId _ hg, hnc, hcm, by simp [putCells, hcs], by rw [← hl2]; exact take_putId cur _ (by rw [hl2, hcs]; exact Nat.mul_le_mul_right _ hnc)⟩⟩
      have e : L.length = d'.toList.length := hs'.symm
      rw [e] at hown ⊢
      exact hown
    · unfold sortWorldK putRowK
      exact (Below.refl B w).grown (grownBy_sortId _) (Nat.le_of_lt (Nat.lt_of_le_of_lt hBg hgl)) (fun k e => by injection e with e; omega)
end Go.Proofs.YtdljgjlkfihjdaaGreatDoor
