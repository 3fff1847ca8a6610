/-
  readRight of package rights.
-/
import Derived.Test.YtgilcllfdgdofaaGreatDoorRdC
import Derived.Deep.RegionHeld
namespace Go.Proofs.YtgilcllfdgdofaaGreatDoor
open Go.RowKit Go.Shelf
set_option linter.unusedVariables false
set_option linter.unusedSimpArgs false

theorem int_infoR : (Tryz.prog.info? 3).map (fun i => (i.zero, i.size, i.bytes)) = some (some (.int .i64 0), 1, 8) := by kernel_rfl
theorem own_blwR {w w' : World} {B : Nat} {e : TypeId} {size n : Nat} {v : Value} {xs : List Value} (h : w.ownsRow B e size v n xs) (hb : Below w.heap.size w w') : w'.ownsRow B e size v n xs :=
  h.kept (row := none) ⟨hb.os, hb.tape, hb.output, hb.size, fun k hk _ => hb.block k hk⟩ (by cases hg : v.ownBlock <;> simp)
theorem own5 {w : World} {B : Nat} {e : TypeId} {v : Value} {xs : List Value} (h : w.ownsRow B e 1 v 5 xs) : ∃ g c, v = .slice (some ⟨g, 0, none⟩) 5 c ∧ 5 ≤ c ∧ c ≤ 9223372036854775807 ∧ g < w.heap.size ∧ ∀ i, i < 5 → w.cell? ⟨g, i, none⟩ = xs[i]? := by
  rcases h.2 with ⟨_, h0⟩ | ⟨g, cap, cur, rfl, _, hh, hc, hm, hs, ht⟩
  · exact absurd h0 (by decide)
  · unfold maxLen at hm
    refine ⟨g, cap, rfl, hc, by omega, (Array.getElem?_eq_some_iff.1 hh).1, fun i hi => ?_⟩
    rw [cell_of_row w g i cur e (0, 0) hh, ← ht, List.getElem?_take]
    rw [if_pos (by omega)]
    simp
theorem lineR_len {s : List UInt8} (h9 : (sg s).length = 9) : ∃ a b c d e f g h i, sg s = [a, b, c, d, e, f, g, h, i] := nine_of h9
theorem lineOk_split {a b c d e f g h i : List UInt8} : lineOk a b c d e f g h i = true ↔ ((wordB a = true ∧ wordB b = true ∧ wordB i = true) ∧ (numB c = true ∧ numB d = true ∧ numB e = true ∧ numB f = true ∧ numB g = true) ∧ kindOf h ≠ 0) := by
  unfold lineOk
  simp only [Bool.and_eq_true, decide_eq_true_iff, and_assoc]
theorem lineR_word {s : List UInt8} (h9 : (sg s).length = 9) {k : Nat} (hk : k < (sg s).length) (hw : wordB (sg s)[k] = false) : lineR s = none := by
  obtain ⟨a, b, c, d, e, f, g, h, i, es⟩ := nine_of h9
  rw [lineR_9 es, if_neg]
  intro ho
  obtain ⟨⟨o1, o2, o3⟩, ⟨o4, o5, o6, o7, o8⟩, o9⟩ := lineOk_split.1 ho
  have key : ∀ x ∈ [a, b, c, d, e, f, g, h, i], wordB x = true := by
    intro x hx
    simp only [List.mem_cons, List.not_mem_nil, or_false] at hx
    rcases hx with rfl | rfl | rfl | rfl | rfl | rfl | rfl | rfl | rfl
    · exact o1
    · exact o2
    · exact num_word o4
    · exact num_word o5
    · exact num_word o6
    · exact num_word o7
    · exact num_word o8
    · exact kind_word o9
    · exact o3
  have := key ((sg s)[k]) (by rw [← es]; exact List.getElem_mem _)
  rw [hw] at this
  cases this
theorem lineR_num {s : List UInt8} (h9 : (sg s).length = 9) {k : Nat} (hk : k < 5) (hw : numB ((sg s)[2 + k]'(by omega)) = false) : lineR s = none := by
  obtain ⟨a, b, c, d, e, f, g, h, i, es⟩ := nine_of h9
  rw [lineR_9 es, if_neg]
  intro ho
  obtain ⟨_, ⟨o4, o5, o6, o7, o8⟩, _⟩ := lineOk_split.1 ho
  have key : ∀ x ∈ [c, d, e, f, g], numB x = true := by
    intro x hx
    simp only [List.mem_cons, List.not_mem_nil, or_false] at hx
    rcases hx with rfl | rfl | rfl | rfl | rfl <;> assumption
  have hm : (sg s)[2 + k]'(by omega) ∈ [c, d, e, f, g] := by
    have : ((sg s).drop 2).take 5 = [c, d, e, f, g] := by rw [es]; rfl
    rw [← this]
    refine List.mem_iff_getElem.2 ⟨k, by rw [List.length_take, List.length_drop]; omega, ?_⟩
    rw [List.getElem_take, List.getElem_drop]
  have := key _ hm
  rw [hw] at this
  cases this
/-- The first k of the numbers of a line. -/
def numsK (ws : List (List UInt8)) (k : Nat) : List Value := (List.range k).map fun j => Value.int .i64 (numV (ws.getD (2 + j) []))
theorem numsK_succ (ws : List (List UInt8)) (k : Nat) : numsK ws (k + 1) = numsK ws k ++ [.int .i64 (numV (ws.getD (2 + k) []))] := by
  unfold numsK
  rw [List.range_succ, List.map_append]
  rfl
theorem kindIx_any (kb : Nat) (h : List UInt8) (w : World) (hk : Blk w kb 9 (kindRow.map fun x => Value.string (bstr x))) :
    Calls Tryz.prog 32 #[.slice (some ⟨kb, 0, none⟩) 4 4, .string (bstr h)] w fun e w' => e = .returned (.int .i64 (kindOf h - 1)) ∧ w' = w := by
  have hx := Any.slices_Index_string shIdxS kb 0 4 4 (kindRow.map bstr) (bstr h) w (by decide) (by decide) (fun j hj => by
    have hj : j < 4 := hj
    rw [Nat.zero_add, hk.cell j]
    have : j = 0 ∨ j = 1 ∨ j = 2 ∨ j = 3 := by omega
    rcases this with rfl | rfl | rfl | rfl <;> rfl)
  have e := kind_idx h
  rw [show Lib.idxOfS ((kindRow.map bstr).take 4) (bstr h) = kindOf h - 1 from by omega] at hx
  exact hx
def zeroR : Rgt := ⟨[], [], 0, 0, 0, 0, 0, 0, []⟩
def RlPost (s : List UInt8) (w : World) (e : Ending) (w' : World) : Prop :=
  ∃ (r : Rgt) (ok : Bool), e = .returned (.tuple #[.agg (rgtCells r).toArray, .bool ok]) ∧ Below w.heap.size w w' ∧ (ok = true → lineR s = some r) ∧ (ok = false → lineR s = none)
theorem RlPost.no {s : List UInt8} {w w' : World} (h : lineR s = none) (hb : Below w.heap.size w w') : RlPost s w (.returned (.tuple #[.agg #[.string ⟨#[]⟩, .string ⟨#[]⟩, .int .i64 0, .int .i64 0, .int .i64 0, .int .i64 0, .int .i64 0, .int .i64 0, .string ⟨#[]⟩], .bool false])) w' := ⟨zeroR, false, rfl, hb, fun h => (by cases h), fun _ => h⟩
theorem RlPost.yes {s a b c d e f g h i : List UInt8} {w w' : World} (hl : lineR s = if kindOf h ≠ 0 then some (mkR a b c d e f g h i) else none) (hb : Below w.heap.size w w') : RlPost s w (.returned (.tuple #[.agg #[.string (bstr a), .string (bstr (unDash b)), .int .i64 (numV c), .int .i64 (numV d), .int .i64 (numV e), .int .i64 (numV f), .int .i64 (numV g), .int .i64 (kindOf h), .string (bstr (unDash i))], .bool (decide (0 < kindOf h))])) w' := by
  have hk := kind_range h
  refine ⟨mkR a b c d e f g h i, _, rfl, hb, fun ho => ?_, fun ho => ?_⟩
  · rw [hl, if_pos (by have := of_decide_eq_true ho; omega)]
  · rw [hl, if_neg (by have := of_decide_eq_false ho; omega)]
theorem same_set1 {w w' : World} {rb : Nat} (h : Same (fun j => j = rb) w w') {g : Nat} (hne : rb ≠ g) (i : Nat) (v : Value) : Same (fun j => j = rb) w (w'.setCell ⟨g, i, none⟩ v) := fun j hj => by
  have hj : j = rb := hj
  subst hj
  exact (heap_setCell_other _ _ _ _ hne).trans (h _ rfl)
theorem right_info : (Tryz.prog.info? 28).map (·.size) = some 9 := by kernel_rfl
theorem results_row2 {P : Program} {fn : Func} {p u : Tmp} {ty : TypeId} (h : fn.results = #[.cell p ty, .tmp u]) (tmps : Array Value) (w : World) (g : Nat) (t : TypeId) (cs : List Value) (d : TypeDesc)
    (hp : tmps.getD p undef = .pointer (some ⟨g, 0, none⟩)) (hg : Blk w g t cs)
    (hu : P.underlying ty = some d) (hd : (match d with | .struct _ | .array _ _ => true | _ => false) = true) (hi : (P.info? ty).map (·.size) = some cs.toArray.size) :
    (results fn tmps).run P w = .ok (.tuple #[.agg cs.toArray, tmps.getD u undef]) w := by
  rw [results_cell_tmp h, hp]
  simp only [asAddr, Sem.run_pure, Result.andThen_ok, run_loadVar_row w g t ty cs.toArray (0, 0) d hg hu hd hi]
set_option maxRecDepth 100000 in
set_option maxHeartbeats 16000000 in
theorem readRight_any (s : List UInt8) (w : World) (hG : GInt w) (hs : s.length ≤ 300000) : Calls Tryz.prog 12 #[.string (bstr s)] w (RlPost s w) := by
  have hr0 := Blk.new w 28 [.string ⟨#[]⟩, .string ⟨#[]⟩, .int .i64 0, .int .i64 0, .int .i64 0, .int .i64 0, .int .i64 0, .int .i64 0, .string ⟨#[]⟩]
  have hb0 := (Below.refl w.heap.size w).alloc (Nat.le_refl _) (.cells #[.string ⟨#[]⟩, .string ⟨#[]⟩, .int .i64 0, .int .i64 0, .int .i64 0, .int .i64 0, .int .i64 0, .int .i64 0, .string ⟨#[]⟩] 28)
  have hG0 := hG.ext hb0
  have hsp := splitSp_any s (w.alloc (.cells #[.string ⟨#[]⟩, .string ⟨#[]⟩, .int .i64 0, .int .i64 0, .int .i64 0, .int .i64 0, .int .i64 0, .int .i64 0, .string ⟨#[]⟩] 28)) hG0 (by omega)
  rw [World.size_alloc] at hsp
  have hr1 := hr0.same (same_below ((Below.refl _ _).alloc (Nat.le_refl _) (.cells ((sg s).map fun x => Value.string (bstr x)).toArray 9))) hr0.lt
  have hw1 := Blk.new (w.alloc (.cells #[.string ⟨#[]⟩, .string ⟨#[]⟩, .int .i64 0, .int .i64 0, .int .i64 0, .int .i64 0, .int .i64 0, .int .i64 0, .string ⟨#[]⟩] 28)) 9 ((sg s).map fun x => Value.string (bstr x))
  rw [World.size_alloc] at hw1
  have hb1 : Below w.heap.size w ((w.alloc (.cells #[.string ⟨#[]⟩, .string ⟨#[]⟩, .int .i64 0, .int .i64 0, .int .i64 0, .int .i64 0, .int .i64 0, .int .i64 0, .string ⟨#[]⟩] 28)).alloc (.cells ((sg s).map fun x => Value.string (bstr x)).toArray 9)) := hb0.alloc (by simp) _
  have hz1 : ((w.alloc (.cells #[.string ⟨#[]⟩, .string ⟨#[]⟩, .int .i64 0, .int .i64 0, .int .i64 0, .int .i64 0, .int .i64 0, .int .i64 0, .string ⟨#[]⟩] 28)).alloc (.cells ((sg s).map fun x => Value.string (bstr x)).toArray 9)).heap.size = w.heap.size + 2 := by simp
  have HSP := Lib.hid hsp
  have HR1 := Lib.hid hr1
  have HW1 := Lib.hid hw1
  have HB1 := Lib.hid hb1
  have HSL := Lib.hid (fun x hx => sg_len_le _ s (Nat.le_refl _) x hx)
  clear hr0 hb0 hG0 hG hsp hr1 hw1 hb1
  generalize (w.alloc (.cells #[.string ⟨#[]⟩, .string ⟨#[]⟩, .int .i64 0, .int .i64 0, .int .i64 0, .int .i64 0, .int .i64 0, .int .i64 0, .string ⟨#[]⟩] 28)).alloc (.cells ((sg s).map fun x => Value.string (bstr x)).toArray 9) = w1 at *
  have HZ1 := Lib.hid hz1
  clear hz1
  by_cases h9 : (sg s).length = 9
  case neg =>
    have h9' : (((sg s).length : Int) != 9) = true := by rw [bne_iff_ne]; omega
    have HN9 := Lib.hid h9
    clear h9
    go_enter Tryz.func12, Tryz.ntmps12
    go_wp2_with fail
    refine HSP.out.mono ?_
    rintro e w2 ⟨rfl, hw2⟩
    subst hw2
    have HL0 : Hid (lineR s = none) := Lib.hid (lineR_no HN9.out)
    have HBK := Lib.hid ((((((((((HR1.out.set_ 0 (.string ⟨#[]⟩)).set_ 1 (.string ⟨#[]⟩)).set_ 2 (.int .i64 0)).set_ 3 (.int .i64 0)).set_ 4 (.int .i64 0)).set_ 5 (.int .i64 0)).set_ 6 (.int .i64 0)).set_ 7 (.int .i64 0)).set_ 8 (.string ⟨#[]⟩)))
    have HBL := Lib.hid ((((((((((HB1.out.setCell (p := ⟨w.heap.size, 0, none⟩) (Nat.le_refl _) (.string ⟨#[]⟩)).setCell (p := ⟨w.heap.size, 1, none⟩) (Nat.le_refl _) (.string ⟨#[]⟩)).setCell (p := ⟨w.heap.size, 2, none⟩) (Nat.le_refl _) (.int .i64 0)).setCell (p := ⟨w.heap.size, 3, none⟩) (Nat.le_refl _) (.int .i64 0)).setCell (p := ⟨w.heap.size, 4, none⟩) (Nat.le_refl _) (.int .i64 0)).setCell (p := ⟨w.heap.size, 5, none⟩) (Nat.le_refl _) (.int .i64 0)).setCell (p := ⟨w.heap.size, 6, none⟩) (Nat.le_refl _) (.int .i64 0)).setCell (p := ⟨w.heap.size, 7, none⟩) (Nat.le_refl _) (.int .i64 0)).setCell (p := ⟨w.heap.size, 8, none⟩) (Nat.le_refl _) (.string ⟨#[]⟩)))
    have k0 := HR1.out.cell 0
    have z0 := HR1.out.frozen 0
    have k1 := HR1.out.cell 1
    have z1 := HR1.out.frozen 1
    have k2 := HR1.out.cell 2
    have z2 := HR1.out.frozen 2
    have k3 := HR1.out.cell 3
    have z3 := HR1.out.frozen 3
    have k4 := HR1.out.cell 4
    have z4 := HR1.out.frozen 4
    have k5 := HR1.out.cell 5
    have z5 := HR1.out.frozen 5
    have k6 := HR1.out.cell 6
    have z6 := HR1.out.frozen 6
    have k7 := HR1.out.cell 7
    have z7 := HR1.out.frozen 7
    have k8 := HR1.out.cell 8
    have z8 := HR1.out.frozen 8
    simp only [List.getElem?_cons_zero, List.getElem?_cons_succ] at k0 k1 k2 k3 k4 k5 k6 k7 k8
    go_wp2_with fail
    refine bodyPost_ret (results_row2 rfl _ _ w.heap.size 28 [.string ⟨#[]⟩, .string ⟨#[]⟩, .int .i64 0, .int .i64 0, .int .i64 0, .int .i64 0, .int .i64 0, .int .i64 0, .string ⟨#[]⟩] _ rfl HBK.out Tryz.underlying28 rfl right_info) rfl ?_
    exact RlPost.no HL0.out HBL.out
  have H9 := Lib.hid h9
  rw [h9] at HSP
  have HNW : Hid (∀ k (hk : k < (sg s).length), wordB (sg s)[k] = false → lineR s = none) := Lib.hid (fun k hk hw => lineR_word h9 hk hw)
  have HNN : Hid (∀ k (h5 : k < 5) (hk : 2 + k < (sg s).length), numB ((sg s)[2 + k]'hk) = false → lineR s = none) := Lib.hid (fun k h5 hk hw => lineR_num h9 h5 hw)
  have HNINE := Lib.hid (nine_of h9)
  clear h9
  go_enter Tryz.func12, Tryz.ntmps12
  go_wp2_with fail
  refine HSP.out.mono ?_
  rintro e w2 ⟨rfl, hw2⟩
  subst hw2
  clear HSP
  go_wp2_with fail
  go_loopw [21] (fun vi wr => ∃ k : Nat, k ≤ 9 ∧ vi = .int .i64 k ∧ Hid (Below w2.heap.size w2 wr) ∧ Hid (∀ j, j < k → wordB ((sg s).getD j []) = true)) (fun vi _ => 9 - (intOf vi).toNat)
  case atStart => exact ⟨0, by omega, rfl, Below.refl _ _, Lib.hid (fun j hj => absurd hj (by omega))⟩
  case round =>
    obtain ⟨k, hk, rfl, HB, HWB⟩ := hrel
    have HRR := Lib.hid (HR1.out.same (same_below HB.out) HR1.out.lt)
    have HWR := Lib.hid (HW1.out.same (same_below HB.out) HW1.out.lt)
    have HBR := Lib.hid (ext_trans HB1.out HB.out)
    by_cases hlt : k < 9
    · have hlw : k < (sg s).length := by have := H9.out; omega
      have c0 : wr.cell? ⟨w.heap.size + 1, k, none⟩ = some (.string (bstr (sg s)[k])) := by rw [HWR.out.cell k, List.getElem?_map, List.getElem?_eq_getElem hlw]; rfl
      have HLX := Lib.hid (HSL.out (sg s)[k] (List.getElem_mem _))
      have HBAD : Hid (wordB (sg s)[k] = false → lineR s = none) := Lib.hid (fun h => HNW.out k hlw h)
      have HWB1 : Hid (wordB (sg s)[k] = true → ∀ j, j < k + 1 → wordB ((sg s).getD j []) = true) := Lib.hid (fun h j hj => by
        by_cases e : j = k
        · rw [e, List.getD_eq_getElem?_getD, List.getElem?_eq_getElem hlw]; exact h
        · exact HWB.out j (by omega))
      generalize (sg s)[k] = x at *
      have hk9 : (k : Int) < 9 := by omega
      by_cases hx : x = []
      · have hem : (bstr x).toList.isEmpty = true := by rw [bstr_toList, hx]; rfl
        have HWHY := Lib.hid (HBAD.out (by rw [hx]; rfl))
        clear hx HBAD
        have HL0 : Hid (lineR s = none) := Lib.hid (HWHY.out)
        have HBK := Lib.hid ((((((((((HRR.out.set_ 0 (.string ⟨#[]⟩)).set_ 1 (.string ⟨#[]⟩)).set_ 2 (.int .i64 0)).set_ 3 (.int .i64 0)).set_ 4 (.int .i64 0)).set_ 5 (.int .i64 0)).set_ 6 (.int .i64 0)).set_ 7 (.int .i64 0)).set_ 8 (.string ⟨#[]⟩)))
        have HBL := Lib.hid ((((((((((HBR.out.setCell (p := ⟨w.heap.size, 0, none⟩) (Nat.le_refl _) (.string ⟨#[]⟩)).setCell (p := ⟨w.heap.size, 1, none⟩) (Nat.le_refl _) (.string ⟨#[]⟩)).setCell (p := ⟨w.heap.size, 2, none⟩) (Nat.le_refl _) (.int .i64 0)).setCell (p := ⟨w.heap.size, 3, none⟩) (Nat.le_refl _) (.int .i64 0)).setCell (p := ⟨w.heap.size, 4, none⟩) (Nat.le_refl _) (.int .i64 0)).setCell (p := ⟨w.heap.size, 5, none⟩) (Nat.le_refl _) (.int .i64 0)).setCell (p := ⟨w.heap.size, 6, none⟩) (Nat.le_refl _) (.int .i64 0)).setCell (p := ⟨w.heap.size, 7, none⟩) (Nat.le_refl _) (.int .i64 0)).setCell (p := ⟨w.heap.size, 8, none⟩) (Nat.le_refl _) (.string ⟨#[]⟩)))
        have k0 := HRR.out.cell 0
        have z0 := HRR.out.frozen 0
        have k1 := HRR.out.cell 1
        have z1 := HRR.out.frozen 1
        have k2 := HRR.out.cell 2
        have z2 := HRR.out.frozen 2
        have k3 := HRR.out.cell 3
        have z3 := HRR.out.frozen 3
        have k4 := HRR.out.cell 4
        have z4 := HRR.out.frozen 4
        have k5 := HRR.out.cell 5
        have z5 := HRR.out.frozen 5
        have k6 := HRR.out.cell 6
        have z6 := HRR.out.frozen 6
        have k7 := HRR.out.cell 7
        have z7 := HRR.out.frozen 7
        have k8 := HRR.out.cell 8
        have z8 := HRR.out.frozen 8
        simp only [List.getElem?_cons_zero, List.getElem?_cons_succ] at k0 k1 k2 k3 k4 k5 k6 k7 k8
        go_wp2_with fail
        refine bodyPost_ret (results_row2 rfl _ _ w.heap.size 28 [.string ⟨#[]⟩, .string ⟨#[]⟩, .int .i64 0, .int .i64 0, .int .i64 0, .int .i64 0, .int .i64 0, .int .i64 0, .string ⟨#[]⟩] _ rfl HBK.out Tryz.underlying28 rfl right_info) rfl ?_
        exact RlPost.no HL0.out HBL.out
      have hem : (bstr x).toList.isEmpty = false := by
        rw [bstr_toList]; cases hq : x with | nil => exact absurd hq hx | cons _ _ => rfl
      have hx1 : 1 ≤ x.length := by cases hq : x with | nil => exact absurd hq hx | cons _ _ => simp
      have HAL : Hid (x.all rowByte = false → lineR s = none) := Lib.hid (fun h => HBAD.out (by unfold wordB; rw [h]; rfl))
      clear hx HBAD
      go_wp2_with fail
      refine (containsFn_any x wr).mono ?_
      rintro e w3 ⟨rfl, hb3⟩
      have HB3 := Lib.hid (ext_trans HB.out hb3)
      have HRR3 := Lib.hid (HRR.out.same (same_below hb3) HRR.out.lt)
      have HBR3 := Lib.hid (ext_trans HBR.out hb3)
      clear hb3 HRR HWR HBR HB c0
      cases hal : x.all rowByte with
      | false =>
        have HWHY := Lib.hid (HAL.out hal)
        clear HAL hal
        dsimp only [Bool.not_false]
        have HL0 : Hid (lineR s = none) := Lib.hid (HWHY.out)
        have HBK := Lib.hid ((((((((((HRR3.out.set_ 0 (.string ⟨#[]⟩)).set_ 1 (.string ⟨#[]⟩)).set_ 2 (.int .i64 0)).set_ 3 (.int .i64 0)).set_ 4 (.int .i64 0)).set_ 5 (.int .i64 0)).set_ 6 (.int .i64 0)).set_ 7 (.int .i64 0)).set_ 8 (.string ⟨#[]⟩)))
        have HBL := Lib.hid ((((((((((HBR3.out.setCell (p := ⟨w.heap.size, 0, none⟩) (Nat.le_refl _) (.string ⟨#[]⟩)).setCell (p := ⟨w.heap.size, 1, none⟩) (Nat.le_refl _) (.string ⟨#[]⟩)).setCell (p := ⟨w.heap.size, 2, none⟩) (Nat.le_refl _) (.int .i64 0)).setCell (p := ⟨w.heap.size, 3, none⟩) (Nat.le_refl _) (.int .i64 0)).setCell (p := ⟨w.heap.size, 4, none⟩) (Nat.le_refl _) (.int .i64 0)).setCell (p := ⟨w.heap.size, 5, none⟩) (Nat.le_refl _) (.int .i64 0)).setCell (p := ⟨w.heap.size, 6, none⟩) (Nat.le_refl _) (.int .i64 0)).setCell (p := ⟨w.heap.size, 7, none⟩) (Nat.le_refl _) (.int .i64 0)).setCell (p := ⟨w.heap.size, 8, none⟩) (Nat.le_refl _) (.string ⟨#[]⟩)))
        have k0 := HRR3.out.cell 0
        have z0 := HRR3.out.frozen 0
        have k1 := HRR3.out.cell 1
        have z1 := HRR3.out.frozen 1
        have k2 := HRR3.out.cell 2
        have z2 := HRR3.out.frozen 2
        have k3 := HRR3.out.cell 3
        have z3 := HRR3.out.frozen 3
        have k4 := HRR3.out.cell 4
        have z4 := HRR3.out.frozen 4
        have k5 := HRR3.out.cell 5
        have z5 := HRR3.out.frozen 5
        have k6 := HRR3.out.cell 6
        have z6 := HRR3.out.frozen 6
        have k7 := HRR3.out.cell 7
        have z7 := HRR3.out.frozen 7
        have k8 := HRR3.out.cell 8
        have z8 := HRR3.out.frozen 8
        simp only [List.getElem?_cons_zero, List.getElem?_cons_succ] at k0 k1 k2 k3 k4 k5 k6 k7 k8
        go_wp2_with fail
        refine bodyPost_ret (results_row2 rfl _ _ w.heap.size 28 [.string ⟨#[]⟩, .string ⟨#[]⟩, .int .i64 0, .int .i64 0, .int .i64 0, .int .i64 0, .int .i64 0, .int .i64 0, .string ⟨#[]⟩] _ rfl HBK.out Tryz.underlying28 rfl right_info) rfl ?_
        exact RlPost.no HL0.out HBL.out
      | true =>
        have F6 := Lib.hid (HWB1.out (by unfold wordB; rw [hal, decide_eq_true hx1]; rfl))
        clear HAL hal HWB1
        dsimp only [Bool.not_true]
        go_wp2_with fail
        go_roundw
        case rel => exact ⟨k + 1, by omega, by go_num, HB3.out, F6⟩
        case measure => simp [intOf]; omega
    · obtain rfl : k = 9 := by omega
      rw [show ((9 : Nat) : Int) = (9 : Int) from rfl]
      obtain ⟨wb, hwb⟩ : ∃ wb, wb = wr := ⟨_, rfl⟩
      subst hwb
      have HB0 := Lib.hid HB.out
      clear HB HRR HWR HBR
      go_wp2_with fail
      go_loopw [7, 36] (fun v7 vi wr => ∃ k : Nat, k ≤ 5 ∧ vi = .int .i64 k ∧ Hid (wr.ownsRow w2.heap.size 3 1 v7 k (numsK (sg s) k)) ∧ Hid (Below w2.heap.size w2 wr) ∧ Hid (∀ j, j < k → numB ((sg s).getD (2 + j) []) = true)) (fun _ vi _ => 5 - (intOf vi).toNat)
      case atStart => exact ⟨0, by omega, rfl, World.ownsRow_nil _ _ _ _, HB0, Lib.hid (fun j hj => absurd hj (by omega))⟩
      case round =>
        obtain ⟨k, hk, rfl, HO, HB, HNB⟩ := hrel
        have HRR := Lib.hid (HR1.out.same (same_below HB.out) HR1.out.lt)
        have HWR := Lib.hid (HW1.out.same (same_below HB.out) HW1.out.lt)
        have HBR := Lib.hid (ext_trans HB1.out HB.out)
        by_cases hlt : k < 5
        · have hlw : 2 + k < (sg s).length := by have := H9.out; omega
          have c0 : wr.cell? ⟨w.heap.size + 1, 2 + k, none⟩ = some (.string (bstr (sg s)[2 + k])) := by rw [HWR.out.cell (2 + k), List.getElem?_map, List.getElem?_eq_getElem hlw]; rfl
          have HLX := Lib.hid (HSL.out (sg s)[2 + k] (List.getElem_mem _))
          have HBAD : Hid (numB (sg s)[2 + k] = false → lineR s = none) := Lib.hid (fun h => HNN.out k hlt hlw h)
          have HGD : Hid ((sg s).getD (2 + k) [] = (sg s)[2 + k]) := Lib.hid (by rw [List.getD_eq_getElem?_getD, List.getElem?_eq_getElem hlw]; rfl)
          have HNS := Lib.hid (numsK_succ (sg s) k)
          rw [HGD.out] at HNS
          have HNB1 : Hid (numB (sg s)[2 + k] = true → ∀ j, j < k + 1 → numB ((sg s).getD (2 + j) []) = true) := Lib.hid (fun h j hj => by
            by_cases e : j = k
            · rw [e, HGD.out]; exact h
            · exact HNB.out j (by omega))
          clear HGD
          generalize (sg s)[2 + k] = x at *
          have hk9 : (k : Int) < 5 := by omega
          go_wp2_with fail
          refine (digits_any x wr (by have := HLX.out; omega)).mono ?_
          rintro e w3 ⟨rfl, hb3⟩
          have HB3 := Lib.hid (ext_trans HB.out hb3)
          have HRR3 := Lib.hid (HRR.out.same (same_below hb3) HRR.out.lt)
          have HBR3 := Lib.hid (ext_trans HBR.out hb3)
          have HO3 := Lib.hid (own_blwR HO.out hb3)
          clear hb3 HRR HWR HBR HB c0 HO
          cases hnb : numB x with
          | false =>
            have HWHY := Lib.hid (HBAD.out hnb)
            clear HBAD hnb HNB1
            have HL0 : Hid (lineR s = none) := Lib.hid (HWHY.out)
            have HBK := Lib.hid ((((((((((HRR3.out.set_ 0 (.string ⟨#[]⟩)).set_ 1 (.string ⟨#[]⟩)).set_ 2 (.int .i64 0)).set_ 3 (.int .i64 0)).set_ 4 (.int .i64 0)).set_ 5 (.int .i64 0)).set_ 6 (.int .i64 0)).set_ 7 (.int .i64 0)).set_ 8 (.string ⟨#[]⟩)))
            have HBL := Lib.hid ((((((((((HBR3.out.setCell (p := ⟨w.heap.size, 0, none⟩) (Nat.le_refl _) (.string ⟨#[]⟩)).setCell (p := ⟨w.heap.size, 1, none⟩) (Nat.le_refl _) (.string ⟨#[]⟩)).setCell (p := ⟨w.heap.size, 2, none⟩) (Nat.le_refl _) (.int .i64 0)).setCell (p := ⟨w.heap.size, 3, none⟩) (Nat.le_refl _) (.int .i64 0)).setCell (p := ⟨w.heap.size, 4, none⟩) (Nat.le_refl _) (.int .i64 0)).setCell (p := ⟨w.heap.size, 5, none⟩) (Nat.le_refl _) (.int .i64 0)).setCell (p := ⟨w.heap.size, 6, none⟩) (Nat.le_refl _) (.int .i64 0)).setCell (p := ⟨w.heap.size, 7, none⟩) (Nat.le_refl _) (.int .i64 0)).setCell (p := ⟨w.heap.size, 8, none⟩) (Nat.le_refl _) (.string ⟨#[]⟩)))
            have k0 := HRR3.out.cell 0
            have z0 := HRR3.out.frozen 0
            have k1 := HRR3.out.cell 1
            have z1 := HRR3.out.frozen 1
            have k2 := HRR3.out.cell 2
            have z2 := HRR3.out.frozen 2
            have k3 := HRR3.out.cell 3
            have z3 := HRR3.out.frozen 3
            have k4 := HRR3.out.cell 4
            have z4 := HRR3.out.frozen 4
            have k5 := HRR3.out.cell 5
            have z5 := HRR3.out.frozen 5
            have k6 := HRR3.out.cell 6
            have z6 := HRR3.out.frozen 6
            have k7 := HRR3.out.cell 7
            have z7 := HRR3.out.frozen 7
            have k8 := HRR3.out.cell 8
            have z8 := HRR3.out.frozen 8
            simp only [List.getElem?_cons_zero, List.getElem?_cons_succ] at k0 k1 k2 k3 k4 k5 k6 k7 k8
            go_wp2_with fail
            refine bodyPost_ret (results_row2 rfl _ _ w.heap.size 28 [.string ⟨#[]⟩, .string ⟨#[]⟩, .int .i64 0, .int .i64 0, .int .i64 0, .int .i64 0, .int .i64 0, .int .i64 0, .string ⟨#[]⟩] _ rfl HBK.out Tryz.underlying28 rfl right_info) rfl ?_
            exact RlPost.no HL0.out HBL.out
          | true =>
            have F5 := Lib.hid (HNB1.out hnb)
            have HAT := Lib.hid (atoi_any x w3 hnb)
            clear HBAD hnb HNB1
            go_wp2_with fail
            refine HAT.out.mono ?_
            rintro e w4 ⟨rfl, hb4⟩
            have HB4 := Lib.hid (ext_trans HB3.out hb4)
            have HO4 := Lib.hid (own_blwR HO3.out hb4)
            clear hb4 HAT HO3 HB3 HRR3 HBR3
            go_wp2_with (at_builtin; go_must (refine app_new (w := w4) rfl (.tmp 49) (.tmp 51) 61 rfl 3 (.int .i64 0) 1 8 Tryz.underlying61 int_infoR rfl (by decide) (m := 1) [.int .i64 (numV x)] HO4.out HB4.out.size rfl rfl rfl (by decide) (by simp [Value.oneCell']) (by unfold maxLen; omega) (by omega) ?_); intro g8 c8 w8 HO8 HG8 HE8 HL8)
            have HB8 := Lib.hid (HE8.out _ HB4.out)
            have hO := HO8.out
            rw [← HNS.out] at hO
            have HO9 := Lib.hid hO
            clear hO HO8 HG8 HE8 HL8 HB4 HO4
            go_roundw
            case rel => first | exact ⟨k + 1, by omega, by go_num, HO9, HB8, F5⟩ | (repeat (apply Exists.intro); (refine And.intro ?_ ?_; rotate_left; (repeat' (first | exact rfl | apply And.intro)); exact ⟨k + 1, by omega, by go_num, HO9, HB8, F5⟩))
            case measure => simp [intOf]; omega
        · obtain rfl : k = 5 := by omega
          rw [show ((5 : Nat) : Int) = (5 : Int) from rfl]
          obtain ⟨g, cp, rfl, hc5, hcm, hglt, hcl⟩ := own5 HO.out
          obtain ⟨a, b, c, d, ee, f, gg, h, i, es⟩ := HNINE.out
          have n0 : wr.cell? ⟨g, 0, none⟩ = some (.int .i64 (numV c)) := by rw [hcl 0 (by omega), es]; rfl
          have n1 : wr.cell? ⟨g, 1, none⟩ = some (.int .i64 (numV d)) := by rw [hcl 1 (by omega), es]; rfl
          have n2 : wr.cell? ⟨g, 2, none⟩ = some (.int .i64 (numV ee)) := by rw [hcl 2 (by omega), es]; rfl
          have n3 : wr.cell? ⟨g, 3, none⟩ = some (.int .i64 (numV f)) := by rw [hcl 3 (by omega), es]; rfl
          have n4 : wr.cell? ⟨g, 4, none⟩ = some (.int .i64 (numV gg)) := by rw [hcl 4 (by omega), es]; rfl
          have x0 : wr.cell? ⟨w.heap.size + 1, 0, none⟩ = some (.string (bstr a)) := by rw [HWR.out.cell 0, es]; rfl
          have x1 : wr.cell? ⟨w.heap.size + 1, 1, none⟩ = some (.string (bstr b)) := by rw [HWR.out.cell 1, es]; rfl
          have x7 : wr.cell? ⟨w.heap.size + 1, 7, none⟩ = some (.string (bstr h)) := by rw [HWR.out.cell 7, es]; rfl
          have x8 : wr.cell? ⟨w.heap.size + 1, 8, none⟩ = some (.string (bstr i)) := by rw [HWR.out.cell 8, es]; rfl
          have KEEP : Hid (∀ w', Below wr.heap.size wr w' → (w'.cell? ⟨w.heap.size + 1, 0, none⟩ = some (.string (bstr a)) ∧ w'.cell? ⟨w.heap.size + 1, 1, none⟩ = some (.string (bstr b)) ∧ w'.cell? ⟨w.heap.size + 1, 7, none⟩ = some (.string (bstr h)) ∧ w'.cell? ⟨w.heap.size + 1, 8, none⟩ = some (.string (bstr i)) ∧ w'.cell? ⟨g, 0, none⟩ = some (.int .i64 (numV c)) ∧ w'.cell? ⟨g, 1, none⟩ = some (.int .i64 (numV d)) ∧ w'.cell? ⟨g, 2, none⟩ = some (.int .i64 (numV ee)) ∧ w'.cell? ⟨g, 3, none⟩ = some (.int .i64 (numV f)) ∧ w'.cell? ⟨g, 4, none⟩ = some (.int .i64 (numV gg)))) := Lib.hid (fun w' hb => ⟨(hb.cell (p := ⟨w.heap.size + 1, 0, none⟩) HWR.out.lt).trans x0, (hb.cell (p := ⟨w.heap.size + 1, 1, none⟩) HWR.out.lt).trans x1, (hb.cell (p := ⟨w.heap.size + 1, 7, none⟩) HWR.out.lt).trans x7, (hb.cell (p := ⟨w.heap.size + 1, 8, none⟩) HWR.out.lt).trans x8, (hb.cell (p := ⟨g, 0, none⟩) hglt).trans n0, (hb.cell (p := ⟨g, 1, none⟩) hglt).trans n1, (hb.cell (p := ⟨g, 2, none⟩) hglt).trans n2, (hb.cell (p := ⟨g, 3, none⟩) hglt).trans n3, (hb.cell (p := ⟨g, 4, none⟩) hglt).trans n4⟩)
          have HOK : Hid (lineR s = if kindOf h ≠ 0 then some (mkR a b c d ee f gg h i) else none) := Lib.hid (by
            have w0 := HWB.out 0 (by omega)
            have w1 := HWB.out 1 (by omega)
            have w8 := HWB.out 8 (by omega)
            have m0 := HNB.out 0 (by omega)
            have m1 := HNB.out 1 (by omega)
            have m2 := HNB.out 2 (by omega)
            have m3 := HNB.out 3 (by omega)
            have m4 := HNB.out 4 (by omega)
            rw [es] at w0 w1 w8 m0 m1 m2 m3 m4
            rw [lineR_9 es]
            by_cases hk : kindOf h ≠ 0
            · have ho : lineOk a b c d ee f gg h i = true := lineOk_split.2 ⟨⟨w0, w1, w8⟩, ⟨m0, m1, m2, m3, m4⟩, hk⟩
              rw [if_pos hk, if_pos ho]
            · rw [if_neg hk, if_neg (fun ho => hk (lineOk_split.1 ho).2.2)])
          have HWQ : Hid (IntKind.i64.wrap (kindOf h) = kindOf h) := Lib.hid (by have := kind_range h; rw [IntKind.wrap_i64]; omega)
          have hkr := kind_range h
          clear n0 n1 n2 n3 n4 x0 x1 x7 x8 hcl HO HNB
          go_wp2_with fail
          refine wp_region_held_drew (S := fun w' => w'.cell? ⟨w.heap.size + 1, 0, none⟩ = some (.string (bstr a)) ∧ w'.cell? ⟨w.heap.size + 1, 1, none⟩ = some (.string (bstr b)) ∧ w'.cell? ⟨w.heap.size + 1, 7, none⟩ = some (.string (bstr h)) ∧ w'.cell? ⟨w.heap.size + 1, 8, none⟩ = some (.string (bstr i)) ∧ w'.cell? ⟨g, 0, none⟩ = some (.int .i64 (numV c)) ∧ w'.cell? ⟨g, 1, none⟩ = some (.int .i64 (numV d)) ∧ w'.cell? ⟨g, 2, none⟩ = some (.int .i64 (numV ee)) ∧ w'.cell? ⟨g, 3, none⟩ = some (.int .i64 (numV f)) ∧ w'.cell? ⟨g, 4, none⟩ = some (.int .i64 (numV gg))) (by kernel_rfl) (KEEP.out _ (Below.drew (Below.refl _ _))) (fun hHeld => ?_)
          obtain ⟨wq, hwq⟩ : ∃ wq, wq = World.drew wr := ⟨_, rfl⟩
          have HGq : Hid (Below wr.heap.size wr wq) := Lib.hid (by rw [hwq]; exact Below.drew (Below.refl _ _))
          rw [← hwq] at hHeld ⊢
          clear hwq
          refine wpAnyH_take (i := 0) (v := ?_) rfl (by kernel_rfl) (by kernel_rfl) (by kernel_rfl) (fun _ _ _ h => h) (Or.inl ⟨by rfl, ?_⟩) (by assumption) ?_
          rotate_left
          · (intro w hSw; (try (obtain ⟨q0, q1, q7, q8, r0, r1, r2, r3, r4⟩ := hSw)); go_simp; (try rw [if_neg (by omega)]); (try simp only [HWQ.out]); try with_reducible rfl)
          try simp only [List.getElem_toArray, List.getElem_cons_succ, List.getElem_cons_zero, Act.put, List.setIfInBounds_toArray, List.set_cons_zero, List.set_cons_succ]
          refine wpAnyH_take (i := 1) (v := ?_) rfl (by kernel_rfl) (by kernel_rfl) (by kernel_rfl) (fun _ _ _ h => h) (Or.inl ⟨by rfl, ?_⟩) (by assumption) ?_
          rotate_left
          · (intro w hSw; (try (obtain ⟨q0, q1, q7, q8, r0, r1, r2, r3, r4⟩ := hSw)); go_simp; (try rw [if_neg (by omega)]); (try simp only [HWQ.out]); try with_reducible rfl)
          try simp only [List.getElem_toArray, List.getElem_cons_succ, List.getElem_cons_zero, Act.put, List.setIfInBounds_toArray, List.set_cons_zero, List.set_cons_succ]
          refine wpAnyH_take (i := 2) (v := ?_) rfl (by kernel_rfl) (by kernel_rfl) (by kernel_rfl) (fun _ _ _ h => h) (Or.inl ⟨by rfl, ?_⟩) (by assumption) ?_
          rotate_left
          · (intro w hSw; (try (obtain ⟨q0, q1, q7, q8, r0, r1, r2, r3, r4⟩ := hSw)); go_simp; (try rw [if_neg (by omega)]); (try simp only [HWQ.out]); try with_reducible rfl)
          try simp only [List.getElem_toArray, List.getElem_cons_succ, List.getElem_cons_zero, Act.put, List.setIfInBounds_toArray, List.set_cons_zero, List.set_cons_succ]
          refine wpAnyH_take (i := 3) (v := ?_) rfl (by kernel_rfl) (by kernel_rfl) (by kernel_rfl) (fun _ _ _ h => h) (Or.inl ⟨by rfl, ?_⟩) (by assumption) ?_
          rotate_left
          · (intro w hSw; (try (obtain ⟨q0, q1, q7, q8, r0, r1, r2, r3, r4⟩ := hSw)); go_simp; (try rw [if_neg (by omega)]); (try simp only [HWQ.out]); try with_reducible rfl)
          try simp only [List.getElem_toArray, List.getElem_cons_succ, List.getElem_cons_zero, Act.put, List.setIfInBounds_toArray, List.set_cons_zero, List.set_cons_succ]
          refine wpAnyH_take (i := 4) (v := ?_) rfl (by kernel_rfl) (by kernel_rfl) (by kernel_rfl) (fun _ _ _ h => h) (Or.inl ⟨by rfl, ?_⟩) (by assumption) ?_
          rotate_left
          · (intro w hSw; (try (obtain ⟨q0, q1, q7, q8, r0, r1, r2, r3, r4⟩ := hSw)); go_simp; (try rw [if_neg (by omega)]); (try simp only [HWQ.out]); try with_reducible rfl)
          try simp only [List.getElem_toArray, List.getElem_cons_succ, List.getElem_cons_zero, Act.put, List.setIfInBounds_toArray, List.set_cons_zero, List.set_cons_succ]
          refine wpAnyH_take (i := 5) (v := ?_) rfl (by kernel_rfl) (by kernel_rfl) (by kernel_rfl) (fun _ _ _ h => h) (Or.inl ⟨by rfl, ?_⟩) (by assumption) ?_
          rotate_left
          · (intro w hSw; (try (obtain ⟨q0, q1, q7, q8, r0, r1, r2, r3, r4⟩ := hSw)); go_simp; (try rw [if_neg (by omega)]); (try simp only [HWQ.out]); try with_reducible rfl)
          try simp only [List.getElem_toArray, List.getElem_cons_succ, List.getElem_cons_zero, Act.put, List.setIfInBounds_toArray, List.set_cons_zero, List.set_cons_succ]
          refine wpAnyH_take (i := 7) (v := ?_) rfl (by kernel_rfl) (by kernel_rfl) (by kernel_rfl) (fun _ _ _ h => h) (Or.inl ⟨by rfl, ?_⟩) (by assumption) ?_
          rotate_left
          · (intro w hSw; (try (obtain ⟨q0, q1, q7, q8, r0, r1, r2, r3, r4⟩ := hSw)); go_simp; (try rw [if_neg (by omega)]); (try simp only [HWQ.out]); try with_reducible rfl)
          try simp only [List.getElem_toArray, List.getElem_cons_succ, List.getElem_cons_zero, Act.put, List.setIfInBounds_toArray, List.set_cons_zero, List.set_cons_succ]
          refine wpAnyH_take (i := 8) (v := ?_) rfl (by kernel_rfl) (by kernel_rfl) (by kernel_rfl) (fun _ _ _ h => h) (Or.inl ⟨by rfl, ?_⟩) (by assumption) ?_
          rotate_left
          · (intro w hSw; (try (obtain ⟨q0, q1, q7, q8, r0, r1, r2, r3, r4⟩ := hSw)); go_simp; (try rw [if_neg (by omega)]); (try simp only [HWQ.out]); try with_reducible rfl)
          try simp only [List.getElem_toArray, List.getElem_cons_succ, List.getElem_cons_zero, Act.put, List.setIfInBounds_toArray, List.set_cons_zero, List.set_cons_succ]
          refine wpAnyH_take (i := 9) (v := ?_) rfl (by kernel_rfl) (by kernel_rfl) (by kernel_rfl) (fun _ _ _ h => h) (Or.inl ⟨by rfl, ?_⟩) (by assumption) ?_
          rotate_left
          · (intro w hSw; (try (obtain ⟨q0, q1, q7, q8, r0, r1, r2, r3, r4⟩ := hSw)); go_simp; (try rw [if_neg (by omega)]); (try simp only [HWQ.out]); try with_reducible rfl)
          try simp only [List.getElem_toArray, List.getElem_cons_succ, List.getElem_cons_zero, Act.put, List.setIfInBounds_toArray, List.set_cons_zero, List.set_cons_succ]
          refine wpAnyH_take (i := 10) (v := ?_) rfl (by kernel_rfl) (by kernel_rfl) (by kernel_rfl) (fun _ _ _ h => h) (Or.inl ⟨by rfl, ?_⟩) (by assumption) ?_
          rotate_left
          · (intro w hSw; (try (obtain ⟨q0, q1, q7, q8, r0, r1, r2, r3, r4⟩ := hSw)); go_simp; (try rw [if_neg (by omega)]); (try simp only [HWQ.out]); try with_reducible rfl)
          try simp only [List.getElem_toArray, List.getElem_cons_succ, List.getElem_cons_zero, Act.put, List.setIfInBounds_toArray, List.set_cons_zero, List.set_cons_succ]
          refine wpAnyH_take (i := 11) (v := ?_) rfl (by kernel_rfl) (by kernel_rfl) (by kernel_rfl) (fun _ _ _ h => h) (Or.inl ⟨by rfl, ?_⟩) (by assumption) ?_
          rotate_left
          · (intro w hSw; (try (obtain ⟨q0, q1, q7, q8, r0, r1, r2, r3, r4⟩ := hSw)); go_simp; (try rw [if_neg (by omega)]); (try simp only [HWQ.out]); try with_reducible rfl)
          try simp only [List.getElem_toArray, List.getElem_cons_succ, List.getElem_cons_zero, Act.put, List.setIfInBounds_toArray, List.set_cons_zero, List.set_cons_succ]
          refine wpAnyH_take (i := 12) (v := ?_) rfl (by kernel_rfl) (by kernel_rfl) (by kernel_rfl) (fun _ _ _ h => h) (Or.inl ⟨by rfl, ?_⟩) (by assumption) ?_
          rotate_left
          · (intro w hSw; (try (obtain ⟨q0, q1, q7, q8, r0, r1, r2, r3, r4⟩ := hSw)); go_simp; (try rw [if_neg (by omega)]); (try simp only [HWQ.out]); try with_reducible rfl)
          try simp only [List.getElem_toArray, List.getElem_cons_succ, List.getElem_cons_zero, Act.put, List.setIfInBounds_toArray, List.set_cons_zero, List.set_cons_succ]
          refine wpAnyH_take (i := 13) (v := ?_) rfl (by kernel_rfl) (by kernel_rfl) (by kernel_rfl) (fun _ _ _ h => h) (Or.inl ⟨by rfl, ?_⟩) (by assumption) ?_
          rotate_left
          · (intro w hSw; (try (obtain ⟨q0, q1, q7, q8, r0, r1, r2, r3, r4⟩ := hSw)); go_simp; (try rw [if_neg (by omega)]); (try simp only [HWQ.out]); try with_reducible rfl)
          try simp only [List.getElem_toArray, List.getElem_cons_succ, List.getElem_cons_zero, Act.put, List.setIfInBounds_toArray, List.set_cons_zero, List.set_cons_succ]
          refine wpAnyH_take (i := 14) (v := ?_) rfl (by kernel_rfl) (by kernel_rfl) (by kernel_rfl) (fun _ _ _ h => h) (Or.inl ⟨by rfl, ?_⟩) (by assumption) ?_
          rotate_left
          · (intro w hSw; (try (obtain ⟨q0, q1, q7, q8, r0, r1, r2, r3, r4⟩ := hSw)); go_simp; (try rw [if_neg (by omega)]); (try simp only [HWQ.out]); try with_reducible rfl)
          try simp only [List.getElem_toArray, List.getElem_cons_succ, List.getElem_cons_zero, Act.put, List.setIfInBounds_toArray, List.set_cons_zero, List.set_cons_succ]
          refine wpAnyH_take (i := 15) (v := ?_) rfl (by kernel_rfl) (by kernel_rfl) (by kernel_rfl) (fun _ _ _ h => h) (Or.inl ⟨by rfl, ?_⟩) (by assumption) ?_
          rotate_left
          · (intro w hSw; (try (obtain ⟨q0, q1, q7, q8, r0, r1, r2, r3, r4⟩ := hSw)); go_simp; (try rw [if_neg (by omega)]); (try simp only [HWQ.out]); try with_reducible rfl)
          try simp only [List.getElem_toArray, List.getElem_cons_succ, List.getElem_cons_zero, Act.put, List.setIfInBounds_toArray, List.set_cons_zero, List.set_cons_succ]
          refine wpAnyH_take (i := 16) (v := ?_) rfl (by kernel_rfl) (by kernel_rfl) (by kernel_rfl) (fun _ _ _ h => h) (Or.inl ⟨by rfl, ?_⟩) (by assumption) ?_
          rotate_left
          · (intro w hSw; (try (obtain ⟨q0, q1, q7, q8, r0, r1, r2, r3, r4⟩ := hSw)); go_simp; (try rw [if_neg (by omega)]); (try simp only [HWQ.out]); try with_reducible rfl)
          try simp only [List.getElem_toArray, List.getElem_cons_succ, List.getElem_cons_zero, Act.put, List.setIfInBounds_toArray, List.set_cons_zero, List.set_cons_succ]
          refine wpAnyH_take (i := 17) (v := ?_) rfl (by kernel_rfl) (by kernel_rfl) (by kernel_rfl) (fun _ _ _ h => h) (Or.inl ⟨by rfl, ?_⟩) (by assumption) ?_
          rotate_left
          · (intro w hSw; (try (obtain ⟨q0, q1, q7, q8, r0, r1, r2, r3, r4⟩ := hSw)); go_simp; (try rw [if_neg (by omega)]); (try simp only [HWQ.out]); try with_reducible rfl)
          try simp only [List.getElem_toArray, List.getElem_cons_succ, List.getElem_cons_zero, Act.put, List.setIfInBounds_toArray, List.set_cons_zero, List.set_cons_succ]
          refine wpAnyH_take (i := 18) (v := ?_) rfl (by kernel_rfl) (by kernel_rfl) (by kernel_rfl) (fun _ _ _ h => h) (Or.inl ⟨by rfl, ?_⟩) (by assumption) ?_
          rotate_left
          · (intro w hSw; (try (obtain ⟨q0, q1, q7, q8, r0, r1, r2, r3, r4⟩ := hSw)); go_simp; (try rw [if_neg (by omega)]); (try simp only [HWQ.out]); try with_reducible rfl)
          try simp only [List.getElem_toArray, List.getElem_cons_succ, List.getElem_cons_zero, Act.put, List.setIfInBounds_toArray, List.set_cons_zero, List.set_cons_succ]
          refine wpAnyH_take (i := 19) (v := ?_) rfl (by kernel_rfl) (by kernel_rfl) (by kernel_rfl) (fun _ _ _ h => h) (Or.inl ⟨by rfl, ?_⟩) (by assumption) ?_
          rotate_left
          · (intro w hSw; (try (obtain ⟨q0, q1, q7, q8, r0, r1, r2, r3, r4⟩ := hSw)); go_simp; (try rw [if_neg (by omega)]); (try simp only [HWQ.out]); try with_reducible rfl)
          try simp only [List.getElem_toArray, List.getElem_cons_succ, List.getElem_cons_zero, Act.put, List.setIfInBounds_toArray, List.set_cons_zero, List.set_cons_succ]
          refine wpAnyH_take (i := 20) (v := ?_) rfl (by kernel_rfl) (by kernel_rfl) (by kernel_rfl) (fun _ _ _ h => h) (Or.inl ⟨by rfl, ?_⟩) (by assumption) ?_
          rotate_left
          · (intro w hSw; (try (obtain ⟨q0, q1, q7, q8, r0, r1, r2, r3, r4⟩ := hSw)); go_simp; (try rw [if_neg (by omega)]); (try simp only [HWQ.out]); try with_reducible rfl)
          try simp only [List.getElem_toArray, List.getElem_cons_succ, List.getElem_cons_zero, Act.put, List.setIfInBounds_toArray, List.set_cons_zero, List.set_cons_succ]
          refine wpAnyH_take (i := 21) (v := ?_) rfl (by kernel_rfl) (by kernel_rfl) (by kernel_rfl) (fun _ _ _ h => h) (Or.inl ⟨by rfl, ?_⟩) (by assumption) ?_
          rotate_left
          · (intro w hSw; (try (obtain ⟨q0, q1, q7, q8, r0, r1, r2, r3, r4⟩ := hSw)); go_simp; (try rw [if_neg (by omega)]); (try simp only [HWQ.out]); try with_reducible rfl)
          try simp only [List.getElem_toArray, List.getElem_cons_succ, List.getElem_cons_zero, Act.put, List.setIfInBounds_toArray, List.set_cons_zero, List.set_cons_succ]
          refine wpAnyH_take (i := 23) (v := ?_) rfl (by kernel_rfl) (by kernel_rfl) (by kernel_rfl) (fun _ _ _ h => h) (Or.inl ⟨by rfl, ?_⟩) (by assumption) ?_
          rotate_left
          · (intro w hSw; (try (obtain ⟨q0, q1, q7, q8, r0, r1, r2, r3, r4⟩ := hSw)); go_simp; (try rw [if_neg (by omega)]); (try simp only [HWQ.out]); try with_reducible rfl)
          try simp only [List.getElem_toArray, List.getElem_cons_succ, List.getElem_cons_zero, Act.put, List.setIfInBounds_toArray, List.set_cons_zero, List.set_cons_succ]
          refine wpAnyH_take (i := 24) (v := ?_) rfl (by kernel_rfl) (by kernel_rfl) (by kernel_rfl) (fun _ _ _ h => h) (Or.inl ⟨by rfl, ?_⟩) (by assumption) ?_
          rotate_left
          · (intro w hSw; (try (obtain ⟨q0, q1, q7, q8, r0, r1, r2, r3, r4⟩ := hSw)); go_simp; (try rw [if_neg (by omega)]); (try simp only [HWQ.out]); try with_reducible rfl)
          try simp only [List.getElem_toArray, List.getElem_cons_succ, List.getElem_cons_zero, Act.put, List.setIfInBounds_toArray, List.set_cons_zero, List.set_cons_succ]
          refine wpAnyH_take (i := 25) (v := ?_) rfl (by kernel_rfl) (by kernel_rfl) (by kernel_rfl) (fun _ _ _ h => h) (Or.inl ⟨by rfl, ?_⟩) (by assumption) ?_
          rotate_left
          · (intro w hSw; (try (obtain ⟨q0, q1, q7, q8, r0, r1, r2, r3, r4⟩ := hSw)); go_simp; (try rw [if_neg (by omega)]); (try simp only [HWQ.out]); try with_reducible rfl)
          try simp only [List.getElem_toArray, List.getElem_cons_succ, List.getElem_cons_zero, Act.put, List.setIfInBounds_toArray, List.set_cons_zero, List.set_cons_succ]
          refine wpAnyH_take (i := 28) (v := ?_) rfl (by kernel_rfl) (by kernel_rfl) (by kernel_rfl) (fun _ _ _ h => h) (Or.inl ⟨by rfl, ?_⟩) (by assumption) ?_
          rotate_left
          · (intro w hSw; (try (obtain ⟨q0, q1, q7, q8, r0, r1, r2, r3, r4⟩ := hSw)); go_simp; (try rw [if_neg (by omega)]); (try simp only [HWQ.out]); try with_reducible rfl)
          try simp only [List.getElem_toArray, List.getElem_cons_succ, List.getElem_cons_zero, Act.put, List.setIfInBounds_toArray, List.set_cons_zero, List.set_cons_succ]
          refine wpAnyH_take (i := 29) (v := ?_) rfl (by kernel_rfl) (by kernel_rfl) (by kernel_rfl) (fun _ _ _ h => h) (Or.inl ⟨by rfl, ?_⟩) (by assumption) ?_
          rotate_left
          · (intro w hSw; (try (obtain ⟨q0, q1, q7, q8, r0, r1, r2, r3, r4⟩ := hSw)); go_simp; (try rw [if_neg (by omega)]); (try simp only [HWQ.out]); try with_reducible rfl)
          try simp only [List.getElem_toArray, List.getElem_cons_succ, List.getElem_cons_zero, Act.put, List.setIfInBounds_toArray, List.set_cons_zero, List.set_cons_succ]
          refine wpAnyH_take (i := 30) (v := ?_) rfl (by kernel_rfl) (by kernel_rfl) (by kernel_rfl) (fun _ _ _ h => h) (Or.inl ⟨by rfl, ?_⟩) (by assumption) ?_
          rotate_left
          · (intro w hSw; (try (obtain ⟨q0, q1, q7, q8, r0, r1, r2, r3, r4⟩ := hSw)); go_simp; (try rw [if_neg (by omega)]); (try simp only [HWQ.out]); try with_reducible rfl)
          try simp only [List.getElem_toArray, List.getElem_cons_succ, List.getElem_cons_zero, Act.put, List.setIfInBounds_toArray, List.set_cons_zero, List.set_cons_succ]
          refine wpAnyH_ready (rs := [6, 33]) (by kernel_rfl) (by simp) ?_
          refine AllReadyH.cons rfl (fun K hK => ?_) (AllReadyH.cons rfl (fun K hK => ?_) AllReadyH.nil)
          · rw [if_pos (by rfl)]
            simp only [List.getElem_toArray, List.getElem_cons_succ, List.getElem_cons_zero]
            go_simp
            go_at_call 31
            refine (undash_any b wq).mono ?_
            rintro e wu ⟨rfl, hwu⟩
            subst hwu
            show K _ wu
            refine hK.out _ _ (KEEP.out _ HGq.out) (fun hHeld => ?_)
            clear hK K
            try simp only [List.getElem_toArray, List.getElem_cons_succ, List.getElem_cons_zero, Act.put, List.setIfInBounds_toArray, List.set_cons_zero, List.set_cons_succ]
            refine wpAnyH_ready (rs := [22, 33]) (by kernel_rfl) (by simp) ?_
            refine AllReadyH.cons rfl (fun K hK => ?_) (AllReadyH.cons rfl (fun K hK => ?_) AllReadyH.nil)
            · rw [if_pos (by rfl)]
              simp only [List.getElem_toArray, List.getElem_cons_succ, List.getElem_cons_zero]
              go_simp
              go_at_call 21
              refine (kinds_any wu).mono ?_
              rintro e wk2 ⟨rfl, hwk⟩
              have hbk := (Below.refl wu.heap.size wu).alloc (Nat.le_refl _) (.cells (kindRow.map fun x => Value.string (bstr x)).toArray 9)
              have hkk := Blk.new wu 9 (kindRow.map fun x => Value.string (bstr x))
              rw [← hwk] at hbk hkk
              clear hwk
              have BK3 := Lib.hid (ext_trans HGq.out hbk)
              have HK4 := Lib.hid hkk
              clear hbk hkk
              generalize wu.heap.size = kb5 at *
              show K _ wk2
              refine hK.out _ _ (KEEP.out _ BK3.out) (fun hHeld => ?_)
              clear hK K
              try simp only [List.getElem_toArray, List.getElem_cons_succ, List.getElem_cons_zero, Act.put, List.setIfInBounds_toArray, List.set_cons_zero, List.set_cons_succ]
              refine wpAnyH_ready (rs := [26, 33]) (by kernel_rfl) (by simp) ?_
              refine AllReadyH.cons rfl (fun K hK => ?_) (AllReadyH.cons rfl (fun K hK => ?_) AllReadyH.nil)
              · rw [if_pos (by rfl)]
                simp only [List.getElem_toArray, List.getElem_cons_succ, List.getElem_cons_zero]
                go_simp
                go_at_call 32
                refine (kindIx_any kb5 h wk2 HK4.out).mono ?_
                rintro e wu ⟨rfl, hwu⟩
                subst hwu
                show K _ wu
                refine hK.out _ _ (KEEP.out _ BK3.out) (fun hHeld => ?_)
                clear hK K
                try simp only [List.getElem_toArray, List.getElem_cons_succ, List.getElem_cons_zero, Act.put, List.setIfInBounds_toArray, List.set_cons_zero, List.set_cons_succ]
                refine wpAnyH_take (i := 27) (v := ?_) rfl (by kernel_rfl) (by kernel_rfl) (by kernel_rfl) (fun _ _ _ h => h) (Or.inl ⟨by rfl, ?_⟩) (by assumption) ?_
                rotate_left
                · (intro w hSw; (try (obtain ⟨q0, q1, q7, q8, r0, r1, r2, r3, r4⟩ := hSw)); go_simp; (try rw [if_neg (by omega)]); (try simp only [HWQ.out]); try with_reducible rfl)
                try simp only [List.getElem_toArray, List.getElem_cons_succ, List.getElem_cons_zero, Act.put, List.setIfInBounds_toArray, List.set_cons_zero, List.set_cons_succ]
                refine wpAnyH_ready (rs := [31, 33]) (by kernel_rfl) (by simp) ?_
                refine AllReadyH.cons rfl (fun K hK => ?_) (AllReadyH.cons rfl (fun K hK => ?_) AllReadyH.nil)
                · rw [if_pos (by rfl)]
                  simp only [List.getElem_toArray, List.getElem_cons_succ, List.getElem_cons_zero]
                  go_simp
                  go_at_call 31
                  refine (undash_any i wu).mono ?_
                  rintro e wu ⟨rfl, hwu⟩
                  subst hwu
                  show K _ wu
                  refine hK.out _ _ (KEEP.out _ BK3.out) (fun hHeld => ?_)
                  clear hK K
                  try simp only [List.getElem_toArray, List.getElem_cons_succ, List.getElem_cons_zero, Act.put, List.setIfInBounds_toArray, List.set_cons_zero, List.set_cons_succ]
                  refine wpAnyH_take (i := 32) (v := ?_) rfl (by kernel_rfl) (by kernel_rfl) (by kernel_rfl) (fun _ _ _ h => h) (Or.inl ⟨by rfl, ?_⟩) (by assumption) ?_
                  rotate_left
                  · (intro w hSw; (try (obtain ⟨q0, q1, q7, q8, r0, r1, r2, r3, r4⟩ := hSw)); go_simp; (try rw [if_neg (by omega)]); (try simp only [HWQ.out]); try with_reducible rfl)
                  try simp only [List.getElem_toArray, List.getElem_cons_succ, List.getElem_cons_zero, Act.put, List.setIfInBounds_toArray, List.set_cons_zero, List.set_cons_succ]
                  refine wpAnyH_ready (rs := [33]) (by kernel_rfl) (by simp) ?_
                  refine AllReadyH.cons rfl (fun K hK => ?_) AllReadyH.nil
                  rw [if_pos (by rfl)]
                  simp only [List.getElem_toArray, List.getElem_cons_succ, List.getElem_cons_zero]
                  go_simp
                  have BA9 := Lib.hid (BK3.out.alloc BK3.out.size (.cells #[.string ⟨#[]⟩, .string ⟨#[]⟩, .int .i64 0, .int .i64 0, .int .i64 0, .int .i64 0, .int .i64 0, .int .i64 0, .string ⟨#[]⟩] 28))
                  refine hK.out _ _ (KEEP.out _ BA9.out) (fun hHeld => ?_)
                  clear hK K
                  try simp only [List.getElem_toArray, List.getElem_cons_succ, List.getElem_cons_zero, Act.put, List.setIfInBounds_toArray, List.set_cons_zero, List.set_cons_succ]
                  have HA10 := Lib.hid (Blk.new wu 28 [.string ⟨#[]⟩, .string ⟨#[]⟩, .int .i64 0, .int .i64 0, .int .i64 0, .int .i64 0, .int .i64 0, .int .i64 0, .string ⟨#[]⟩])
                  have hrb : wr.heap.size ≤ wu.heap.size := BK3.out.size
                  have HK12 := Lib.hid (HK4.out.same (same_below ((Below.refl wu.heap.size wu).alloc (Nat.le_refl _) (.cells #[.string ⟨#[]⟩, .string ⟨#[]⟩, .int .i64 0, .int .i64 0, .int .i64 0, .int .i64 0, .int .i64 0, .int .i64 0, .string ⟨#[]⟩] 28))) HK4.out.lt)
                  generalize hwa : wu.alloc (.cells #[.string ⟨#[]⟩, .string ⟨#[]⟩, .int .i64 0, .int .i64 0, .int .i64 0, .int .i64 0, .int .i64 0, .int .i64 0, .string ⟨#[]⟩] 28) = wa8 at *
                  generalize wu.heap.size = rb11 at *
                  clear hwa
                  have hr5 := HA10.out
                  have c0 : _ = some (Value.string ⟨#[]⟩) := hr5.cell 0
                  have y0 := hr5.frozen 0
                  have c1 : _ = some (Value.string ⟨#[]⟩) := hr5.cell 1
                  have y1 := hr5.frozen 1
                  have c2 : _ = some (Value.int .i64 0) := hr5.cell 2
                  have y2 := hr5.frozen 2
                  have c3 : _ = some (Value.int .i64 0) := hr5.cell 3
                  have y3 := hr5.frozen 3
                  have c4 : _ = some (Value.int .i64 0) := hr5.cell 4
                  have y4 := hr5.frozen 4
                  have c5 : _ = some (Value.int .i64 0) := hr5.cell 5
                  have y5 := hr5.frozen 5
                  have c6 : _ = some (Value.int .i64 0) := hr5.cell 6
                  have y6 := hr5.frozen 6
                  have c7 : _ = some (Value.int .i64 0) := hr5.cell 7
                  have y7 := hr5.frozen 7
                  have c8 : _ = some (Value.string ⟨#[]⟩) := hr5.cell 8
                  have y8 := hr5.frozen 8
                  refine wpAnyH_ready (rs := [34]) (by kernel_rfl) (by simp) ?_
                  refine AllReadyH.cons rfl (fun K hK => ?_) AllReadyH.nil
                  rw [if_pos (by rfl)]
                  simp only [List.getElem_toArray, List.getElem_cons_succ, List.getElem_cons_zero]
                  go_simp
                  refine hK.out _ _ (KEEP.out _ (((((((((BA9.out.setCell (p := ⟨rb11, 0, none⟩) hrb (.string (bstr a))).setCell (p := ⟨rb11, 1, none⟩) hrb (.string (bstr (unDash b)))).setCell (p := ⟨rb11, 2, none⟩) hrb (.int .i64 (numV c))).setCell (p := ⟨rb11, 3, none⟩) hrb (.int .i64 (numV d))).setCell (p := ⟨rb11, 4, none⟩) hrb (.int .i64 (numV ee))).setCell (p := ⟨rb11, 5, none⟩) hrb (.int .i64 (numV f))).setCell (p := ⟨rb11, 6, none⟩) hrb (.int .i64 (numV gg))).setCell (p := ⟨rb11, 7, none⟩) hrb (.int .i64 (kindOf h))).setCell (p := ⟨rb11, 8, none⟩) hrb (.string (bstr (unDash i))))) (fun hHeld => ?_)
                  clear hK K hHeld c0 y0 c1 y1 c2 y2 c3 y3 c4 y4 c5 y5 c6 y6 c7 y7 c8 y8
                  try simp only [List.getElem_toArray, List.getElem_cons_succ, List.getElem_cons_zero, Act.put, List.setIfInBounds_toArray, List.set_cons_zero, List.set_cons_succ]
                  refine wpAnyH_done (by kernel_rfl) ?_ _
                  have HRZ := Lib.hid (((((((((hr5.set_ 0 (.string (bstr a))).set_ 1 (.string (bstr (unDash b)))).set_ 2 (.int .i64 (numV c))).set_ 3 (.int .i64 (numV d))).set_ 4 (.int .i64 (numV ee))).set_ 5 (.int .i64 (numV f))).set_ 6 (.int .i64 (numV gg))).set_ 7 (.int .i64 (kindOf h))).set_ 8 (.string (bstr (unDash i))))
                  have HBZ := Lib.hid (((((((((BA9.out.setCell (p := ⟨rb11, 0, none⟩) hrb (.string (bstr a))).setCell (p := ⟨rb11, 1, none⟩) hrb (.string (bstr (unDash b)))).setCell (p := ⟨rb11, 2, none⟩) hrb (.int .i64 (numV c))).setCell (p := ⟨rb11, 3, none⟩) hrb (.int .i64 (numV d))).setCell (p := ⟨rb11, 4, none⟩) hrb (.int .i64 (numV ee))).setCell (p := ⟨rb11, 5, none⟩) hrb (.int .i64 (numV f))).setCell (p := ⟨rb11, 6, none⟩) hrb (.int .i64 (numV gg))).setCell (p := ⟨rb11, 7, none⟩) hrb (.int .i64 (kindOf h))).setCell (p := ⟨rb11, 8, none⟩) hrb (.string (bstr (unDash i))))
                  clear hr5
                  generalize hwz : (((((((((wa8.setCell ⟨rb11, 0, none⟩ (.string (bstr a))).setCell ⟨rb11, 1, none⟩ (.string (bstr (unDash b)))).setCell ⟨rb11, 2, none⟩ (.int .i64 (numV c))).setCell ⟨rb11, 3, none⟩ (.int .i64 (numV d))).setCell ⟨rb11, 4, none⟩ (.int .i64 (numV ee))).setCell ⟨rb11, 5, none⟩ (.int .i64 (numV f))).setCell ⟨rb11, 6, none⟩ (.int .i64 (numV gg))).setCell ⟨rb11, 7, none⟩ (.int .i64 (kindOf h))).setCell ⟨rb11, 8, none⟩ (.string (bstr (unDash i)))) = wz at *
                  clear hwz
                  have hrz := HRZ.out
                  simp only [List.set_cons_zero, List.set_cons_succ] at hrz
                  have KEEPZ : Hid (∀ w', Same (fun j => j = rb11) wz w' → (w'.cell? ⟨rb11, 0, none⟩ = some (.string (bstr a)) ∧ w'.cell? ⟨rb11, 1, none⟩ = some (.string (bstr (unDash b))) ∧ w'.cell? ⟨rb11, 2, none⟩ = some (.int .i64 (numV c)) ∧ w'.cell? ⟨rb11, 3, none⟩ = some (.int .i64 (numV d)) ∧ w'.cell? ⟨rb11, 4, none⟩ = some (.int .i64 (numV ee)) ∧ w'.cell? ⟨rb11, 5, none⟩ = some (.int .i64 (numV f)) ∧ w'.cell? ⟨rb11, 6, none⟩ = some (.int .i64 (numV gg)) ∧ w'.cell? ⟨rb11, 7, none⟩ = some (.int .i64 (kindOf h)) ∧ w'.cell? ⟨rb11, 8, none⟩ = some (.string (bstr (unDash i))))) := Lib.hid (fun w' hsm => by
                    have hq := hrz.same hsm rfl
                    exact ⟨hq.cell 0, hq.cell 1, hq.cell 2, hq.cell 3, hq.cell 4, hq.cell 5, hq.cell 6, hq.cell 7, hq.cell 8⟩)
                  have HRQ := Lib.hid (HRR.out.same (same_below HBZ.out) HRR.out.lt)
                  have hne : rb11 ≠ w.heap.size := by have := HRR.out.lt; omega
                  have HBW := Lib.hid (ext_trans HBR.out HBZ.out)
                  clear hrz HRZ HRR HBR HBZ HR1 HW1 HB1 HWR HB KEEP
                  go_wp2_with fail
                  refine wp_region_held_drew (S := fun w' => w'.cell? ⟨rb11, 0, none⟩ = some (.string (bstr a)) ∧ w'.cell? ⟨rb11, 1, none⟩ = some (.string (bstr (unDash b))) ∧ w'.cell? ⟨rb11, 2, none⟩ = some (.int .i64 (numV c)) ∧ w'.cell? ⟨rb11, 3, none⟩ = some (.int .i64 (numV d)) ∧ w'.cell? ⟨rb11, 4, none⟩ = some (.int .i64 (numV ee)) ∧ w'.cell? ⟨rb11, 5, none⟩ = some (.int .i64 (numV f)) ∧ w'.cell? ⟨rb11, 6, none⟩ = some (.int .i64 (numV gg)) ∧ w'.cell? ⟨rb11, 7, none⟩ = some (.int .i64 (kindOf h)) ∧ w'.cell? ⟨rb11, 8, none⟩ = some (.string (bstr (unDash i)))) (by kernel_rfl) (KEEPZ.out _ (fun j hj => rfl)) (fun hHeld => ?_)
                  obtain ⟨wq2, hwq2⟩ : ∃ wq2, wq2 = World.drew wz := ⟨_, rfl⟩
                  have HSQ2 : Hid (Same (fun j => j = rb11) wz wq2) := Lib.hid (by rw [hwq2]; exact fun j hj => rfl)
                  have HRQ2 : Hid (Blk wq2 w.heap.size 28 [.string ⟨#[]⟩, .string ⟨#[]⟩, .int .i64 0, .int .i64 0, .int .i64 0, .int .i64 0, .int .i64 0, .int .i64 0, .string ⟨#[]⟩]) := Lib.hid (by rw [hwq2]; exact HRQ.out)
                  have HBW2 : Hid (Below w.heap.size w wq2) := Lib.hid (by rw [hwq2]; exact Below.drew HBW.out)
                  rw [← hwq2] at hHeld ⊢
                  clear hwq2 HRQ HBW
                  refine wpAnyH_take (i := 0) (v := ?_) rfl (by kernel_rfl) (by kernel_rfl) (by kernel_rfl) (fun _ _ _ h => h) (Or.inl ⟨by rfl, ?_⟩) (by assumption) ?_
                  rotate_left
                  · (intro w hSw; (try (obtain ⟨q0, q1, q2, q3, q4, q5, q6, q7, q8⟩ := hSw)); go_simp; try with_reducible rfl)
                  try simp only [List.getElem_toArray, List.getElem_cons_succ, List.getElem_cons_zero, Act.put, List.setIfInBounds_toArray, List.set_cons_zero, List.set_cons_succ]
                  refine wpAnyH_take (i := 1) (v := ?_) rfl (by kernel_rfl) (by kernel_rfl) (by kernel_rfl) (fun _ _ _ h => h) (Or.inl ⟨by rfl, ?_⟩) (by assumption) ?_
                  rotate_left
                  · (intro w hSw; (try (obtain ⟨q0, q1, q2, q3, q4, q5, q6, q7, q8⟩ := hSw)); go_simp; try with_reducible rfl)
                  try simp only [List.getElem_toArray, List.getElem_cons_succ, List.getElem_cons_zero, Act.put, List.setIfInBounds_toArray, List.set_cons_zero, List.set_cons_succ]
                  refine wpAnyH_take (i := 2) (v := ?_) rfl (by kernel_rfl) (by kernel_rfl) (by kernel_rfl) (fun _ _ _ h => h) (Or.inl ⟨by rfl, ?_⟩) (by assumption) ?_
                  rotate_left
                  · (intro w hSw; (try (obtain ⟨q0, q1, q2, q3, q4, q5, q6, q7, q8⟩ := hSw)); go_simp; try with_reducible rfl)
                  try simp only [List.getElem_toArray, List.getElem_cons_succ, List.getElem_cons_zero, Act.put, List.setIfInBounds_toArray, List.set_cons_zero, List.set_cons_succ]
                  refine wpAnyH_take (i := 3) (v := ?_) rfl (by kernel_rfl) (by kernel_rfl) (by kernel_rfl) (fun _ _ _ h => h) (Or.inl ⟨by rfl, ?_⟩) (by assumption) ?_
                  rotate_left
                  · (intro w hSw; (try (obtain ⟨q0, q1, q2, q3, q4, q5, q6, q7, q8⟩ := hSw)); go_simp; try with_reducible rfl)
                  try simp only [List.getElem_toArray, List.getElem_cons_succ, List.getElem_cons_zero, Act.put, List.setIfInBounds_toArray, List.set_cons_zero, List.set_cons_succ]
                  have hr6 := HRQ2.out
                  have c0 : _ = some (Value.string ⟨#[]⟩) := hr6.cell 0
                  have y0 := hr6.frozen 0
                  have c1 : _ = some (Value.string ⟨#[]⟩) := hr6.cell 1
                  have y1 := hr6.frozen 1
                  have c2 : _ = some (Value.int .i64 0) := hr6.cell 2
                  have y2 := hr6.frozen 2
                  have c3 : _ = some (Value.int .i64 0) := hr6.cell 3
                  have y3 := hr6.frozen 3
                  have c4 : _ = some (Value.int .i64 0) := hr6.cell 4
                  have y4 := hr6.frozen 4
                  have c5 : _ = some (Value.int .i64 0) := hr6.cell 5
                  have y5 := hr6.frozen 5
                  have c6 : _ = some (Value.int .i64 0) := hr6.cell 6
                  have y6 := hr6.frozen 6
                  have c7 : _ = some (Value.int .i64 0) := hr6.cell 7
                  have y7 := hr6.frozen 7
                  have c8 : _ = some (Value.string ⟨#[]⟩) := hr6.cell 8
                  have y8 := hr6.frozen 8
                  refine wpAnyH_ready (rs := [4]) (by kernel_rfl) (by simp) ?_
                  refine AllReadyH.cons rfl (fun K hK => ?_) AllReadyH.nil
                  rw [if_pos (by rfl)]
                  simp only [List.getElem_toArray, List.getElem_cons_succ, List.getElem_cons_zero]
                  go_simp
                  refine hK.out _ _ (KEEPZ.out _ (same_set1 (same_set1 (same_set1 (same_set1 (same_set1 (same_set1 (same_set1 (same_set1 (same_set1 HSQ2.out (g := w.heap.size) hne 0 (.string (bstr a))) (g := w.heap.size) hne 1 (.string (bstr (unDash b)))) (g := w.heap.size) hne 2 (.int .i64 (numV c))) (g := w.heap.size) hne 3 (.int .i64 (numV d))) (g := w.heap.size) hne 4 (.int .i64 (numV ee))) (g := w.heap.size) hne 5 (.int .i64 (numV f))) (g := w.heap.size) hne 6 (.int .i64 (numV gg))) (g := w.heap.size) hne 7 (.int .i64 (kindOf h))) (g := w.heap.size) hne 8 (.string (bstr (unDash i))))) (fun hHeld => ?_)
                  clear hK K c0 y0 c1 y1 c2 y2 c3 y3 c4 y4 c5 y5 c6 y6 c7 y7 c8 y8
                  try simp only [List.getElem_toArray, List.getElem_cons_succ, List.getElem_cons_zero, Act.put, List.setIfInBounds_toArray, List.set_cons_zero, List.set_cons_succ]
                  refine wpAnyH_take (i := 5) (v := ?_) rfl (by kernel_rfl) (by kernel_rfl) (by kernel_rfl) (fun _ _ _ h => h) (Or.inl ⟨by rfl, ?_⟩) (by assumption) ?_
                  rotate_left
                  · (intro w hSw; (try (obtain ⟨q0, q1, q2, q3, q4, q5, q6, q7, q8⟩ := hSw)); go_simp; try with_reducible rfl)
                  try simp only [List.getElem_toArray, List.getElem_cons_succ, List.getElem_cons_zero, Act.put, List.setIfInBounds_toArray, List.set_cons_zero, List.set_cons_succ]
                  refine wpAnyH_done (by kernel_rfl) ?_ _
                  have HBK := Lib.hid (((((((((hr6.set_ 0 (.string (bstr a))).set_ 1 (.string (bstr (unDash b)))).set_ 2 (.int .i64 (numV c))).set_ 3 (.int .i64 (numV d))).set_ 4 (.int .i64 (numV ee))).set_ 5 (.int .i64 (numV f))).set_ 6 (.int .i64 (numV gg))).set_ 7 (.int .i64 (kindOf h))).set_ 8 (.string (bstr (unDash i))))
                  have HBL := Lib.hid (((((((((HBW2.out.setCell (p := ⟨w.heap.size, 0, none⟩) (Nat.le_refl _) (.string (bstr a))).setCell (p := ⟨w.heap.size, 1, none⟩) (Nat.le_refl _) (.string (bstr (unDash b)))).setCell (p := ⟨w.heap.size, 2, none⟩) (Nat.le_refl _) (.int .i64 (numV c))).setCell (p := ⟨w.heap.size, 3, none⟩) (Nat.le_refl _) (.int .i64 (numV d))).setCell (p := ⟨w.heap.size, 4, none⟩) (Nat.le_refl _) (.int .i64 (numV ee))).setCell (p := ⟨w.heap.size, 5, none⟩) (Nat.le_refl _) (.int .i64 (numV f))).setCell (p := ⟨w.heap.size, 6, none⟩) (Nat.le_refl _) (.int .i64 (numV gg))).setCell (p := ⟨w.heap.size, 7, none⟩) (Nat.le_refl _) (.int .i64 (kindOf h))).setCell (p := ⟨w.heap.size, 8, none⟩) (Nat.le_refl _) (.string (bstr (unDash i))))
                  clear hr6 hHeld KEEPZ HSQ2 HRQ2 HBW2
                  generalize hwy : (((((((((wq2.setCell ⟨w.heap.size, 0, none⟩ (.string (bstr a))).setCell ⟨w.heap.size, 1, none⟩ (.string (bstr (unDash b)))).setCell ⟨w.heap.size, 2, none⟩ (.int .i64 (numV c))).setCell ⟨w.heap.size, 3, none⟩ (.int .i64 (numV d))).setCell ⟨w.heap.size, 4, none⟩ (.int .i64 (numV ee))).setCell ⟨w.heap.size, 5, none⟩ (.int .i64 (numV f))).setCell ⟨w.heap.size, 6, none⟩ (.int .i64 (numV gg))).setCell ⟨w.heap.size, 7, none⟩ (.int .i64 (kindOf h))).setCell ⟨w.heap.size, 8, none⟩ (.string (bstr (unDash i)))) = wy at *
                  clear hwy
                  go_wp2_with fail
                  refine bodyPost_ret (results_row2 rfl _ _ w.heap.size 28 [.string (bstr a), .string (bstr (unDash b)), .int .i64 (numV c), .int .i64 (numV d), .int .i64 (numV ee), .int .i64 (numV f), .int .i64 (numV gg), .int .i64 (kindOf h), .string (bstr (unDash i))] _ rfl HBK.out Tryz.underlying28 rfl right_info) rfl ?_
                  exact RlPost.yes HOK.out HBL.out
                · rw [if_pos (by rfl)]
                  simp only [List.getElem_toArray, List.getElem_cons_succ, List.getElem_cons_zero]
                  go_simp
                  have BA14 := Lib.hid (BK3.out.alloc BK3.out.size (.cells #[.string ⟨#[]⟩, .string ⟨#[]⟩, .int .i64 0, .int .i64 0, .int .i64 0, .int .i64 0, .int .i64 0, .int .i64 0, .string ⟨#[]⟩] 28))
                  refine hK.out _ _ (KEEP.out _ BA14.out) (fun hHeld => ?_)
                  clear hK K
                  try simp only [List.getElem_toArray, List.getElem_cons_succ, List.getElem_cons_zero, Act.put, List.setIfInBounds_toArray, List.set_cons_zero, List.set_cons_succ]
                  have HA15 := Lib.hid (Blk.new wu 28 [.string ⟨#[]⟩, .string ⟨#[]⟩, .int .i64 0, .int .i64 0, .int .i64 0, .int .i64 0, .int .i64 0, .int .i64 0, .string ⟨#[]⟩])
                  have hrb : wr.heap.size ≤ wu.heap.size := BK3.out.size
                  have HK17 := Lib.hid (HK4.out.same (same_below ((Below.refl wu.heap.size wu).alloc (Nat.le_refl _) (.cells #[.string ⟨#[]⟩, .string ⟨#[]⟩, .int .i64 0, .int .i64 0, .int .i64 0, .int .i64 0, .int .i64 0, .int .i64 0, .string ⟨#[]⟩] 28))) HK4.out.lt)
                  generalize hwa : wu.alloc (.cells #[.string ⟨#[]⟩, .string ⟨#[]⟩, .int .i64 0, .int .i64 0, .int .i64 0, .int .i64 0, .int .i64 0, .int .i64 0, .string ⟨#[]⟩] 28) = wa13 at *
                  generalize wu.heap.size = rb16 at *
                  clear hwa
                  refine wpAnyH_ready (rs := [31]) (by kernel_rfl) (by simp) ?_
                  refine AllReadyH.cons rfl (fun K hK => ?_) AllReadyH.nil
                  rw [if_pos (by rfl)]
                  simp only [List.getElem_toArray, List.getElem_cons_succ, List.getElem_cons_zero]
                  go_simp
                  go_at_call 31
                  refine (undash_any i wa13).mono ?_
                  rintro e wu ⟨rfl, hwu⟩
                  subst hwu
                  show K _ wu
                  refine hK.out _ _ (KEEP.out _ BA14.out) (fun hHeld => ?_)
                  clear hK K
                  try simp only [List.getElem_toArray, List.getElem_cons_succ, List.getElem_cons_zero, Act.put, List.setIfInBounds_toArray, List.set_cons_zero, List.set_cons_succ]
                  refine wpAnyH_take (i := 32) (v := ?_) rfl (by kernel_rfl) (by kernel_rfl) (by kernel_rfl) (fun _ _ _ h => h) (Or.inl ⟨by rfl, ?_⟩) (by assumption) ?_
                  rotate_left
                  · (intro w hSw; (try (obtain ⟨q0, q1, q7, q8, r0, r1, r2, r3, r4⟩ := hSw)); go_simp; (try rw [if_neg (by omega)]); (try simp only [HWQ.out]); try with_reducible rfl)
                  try simp only [List.getElem_toArray, List.getElem_cons_succ, List.getElem_cons_zero, Act.put, List.setIfInBounds_toArray, List.set_cons_zero, List.set_cons_succ]
                  have hr5 := HA15.out
                  have c0 : _ = some (Value.string ⟨#[]⟩) := hr5.cell 0
                  have y0 := hr5.frozen 0
                  have c1 : _ = some (Value.string ⟨#[]⟩) := hr5.cell 1
                  have y1 := hr5.frozen 1
                  have c2 : _ = some (Value.int .i64 0) := hr5.cell 2
                  have y2 := hr5.frozen 2
                  have c3 : _ = some (Value.int .i64 0) := hr5.cell 3
                  have y3 := hr5.frozen 3
                  have c4 : _ = some (Value.int .i64 0) := hr5.cell 4
                  have y4 := hr5.frozen 4
                  have c5 : _ = some (Value.int .i64 0) := hr5.cell 5
                  have y5 := hr5.frozen 5
                  have c6 : _ = some (Value.int .i64 0) := hr5.cell 6
                  have y6 := hr5.frozen 6
                  have c7 : _ = some (Value.int .i64 0) := hr5.cell 7
                  have y7 := hr5.frozen 7
                  have c8 : _ = some (Value.string ⟨#[]⟩) := hr5.cell 8
                  have y8 := hr5.frozen 8
                  refine wpAnyH_ready (rs := [34]) (by kernel_rfl) (by simp) ?_
                  refine AllReadyH.cons rfl (fun K hK => ?_) AllReadyH.nil
                  rw [if_pos (by rfl)]
                  simp only [List.getElem_toArray, List.getElem_cons_succ, List.getElem_cons_zero]
                  go_simp
                  refine hK.out _ _ (KEEP.out _ (((((((((BA14.out.setCell (p := ⟨rb16, 0, none⟩) hrb (.string (bstr a))).setCell (p := ⟨rb16, 1, none⟩) hrb (.string (bstr (unDash b)))).setCell (p := ⟨rb16, 2, none⟩) hrb (.int .i64 (numV c))).setCell (p := ⟨rb16, 3, none⟩) hrb (.int .i64 (numV d))).setCell (p := ⟨rb16, 4, none⟩) hrb (.int .i64 (numV ee))).setCell (p := ⟨rb16, 5, none⟩) hrb (.int .i64 (numV f))).setCell (p := ⟨rb16, 6, none⟩) hrb (.int .i64 (numV gg))).setCell (p := ⟨rb16, 7, none⟩) hrb (.int .i64 (kindOf h))).setCell (p := ⟨rb16, 8, none⟩) hrb (.string (bstr (unDash i))))) (fun hHeld => ?_)
                  clear hK K hHeld c0 y0 c1 y1 c2 y2 c3 y3 c4 y4 c5 y5 c6 y6 c7 y7 c8 y8
                  try simp only [List.getElem_toArray, List.getElem_cons_succ, List.getElem_cons_zero, Act.put, List.setIfInBounds_toArray, List.set_cons_zero, List.set_cons_succ]
                  refine wpAnyH_done (by kernel_rfl) ?_ _
                  have HRZ := Lib.hid (((((((((hr5.set_ 0 (.string (bstr a))).set_ 1 (.string (bstr (unDash b)))).set_ 2 (.int .i64 (numV c))).set_ 3 (.int .i64 (numV d))).set_ 4 (.int .i64 (numV ee))).set_ 5 (.int .i64 (numV f))).set_ 6 (.int .i64 (numV gg))).set_ 7 (.int .i64 (kindOf h))).set_ 8 (.string (bstr (unDash i))))
                  have HBZ := Lib.hid (((((((((BA14.out.setCell (p := ⟨rb16, 0, none⟩) hrb (.string (bstr a))).setCell (p := ⟨rb16, 1, none⟩) hrb (.string (bstr (unDash b)))).setCell (p := ⟨rb16, 2, none⟩) hrb (.int .i64 (numV c))).setCell (p := ⟨rb16, 3, none⟩) hrb (.int .i64 (numV d))).setCell (p := ⟨rb16, 4, none⟩) hrb (.int .i64 (numV ee))).setCell (p := ⟨rb16, 5, none⟩) hrb (.int .i64 (numV f))).setCell (p := ⟨rb16, 6, none⟩) hrb (.int .i64 (numV gg))).setCell (p := ⟨rb16, 7, none⟩) hrb (.int .i64 (kindOf h))).setCell (p := ⟨rb16, 8, none⟩) hrb (.string (bstr (unDash i))))
                  clear hr5
                  generalize hwz : (((((((((wu.setCell ⟨rb16, 0, none⟩ (.string (bstr a))).setCell ⟨rb16, 1, none⟩ (.string (bstr (unDash b)))).setCell ⟨rb16, 2, none⟩ (.int .i64 (numV c))).setCell ⟨rb16, 3, none⟩ (.int .i64 (numV d))).setCell ⟨rb16, 4, none⟩ (.int .i64 (numV ee))).setCell ⟨rb16, 5, none⟩ (.int .i64 (numV f))).setCell ⟨rb16, 6, none⟩ (.int .i64 (numV gg))).setCell ⟨rb16, 7, none⟩ (.int .i64 (kindOf h))).setCell ⟨rb16, 8, none⟩ (.string (bstr (unDash i)))) = wz at *
                  clear hwz
                  have hrz := HRZ.out
                  simp only [List.set_cons_zero, List.set_cons_succ] at hrz
                  have KEEPZ : Hid (∀ w', Same (fun j => j = rb16) wz w' → (w'.cell? ⟨rb16, 0, none⟩ = some (.string (bstr a)) ∧ w'.cell? ⟨rb16, 1, none⟩ = some (.string (bstr (unDash b))) ∧ w'.cell? ⟨rb16, 2, none⟩ = some (.int .i64 (numV c)) ∧ w'.cell? ⟨rb16, 3, none⟩ = some (.int .i64 (numV d)) ∧ w'.cell? ⟨rb16, 4, none⟩ = some (.int .i64 (numV ee)) ∧ w'.cell? ⟨rb16, 5, none⟩ = some (.int .i64 (numV f)) ∧ w'.cell? ⟨rb16, 6, none⟩ = some (.int .i64 (numV gg)) ∧ w'.cell? ⟨rb16, 7, none⟩ = some (.int .i64 (kindOf h)) ∧ w'.cell? ⟨rb16, 8, none⟩ = some (.string (bstr (unDash i))))) := Lib.hid (fun w' hsm => by
                    have hq := hrz.same hsm rfl
                    exact ⟨hq.cell 0, hq.cell 1, hq.cell 2, hq.cell 3, hq.cell 4, hq.cell 5, hq.cell 6, hq.cell 7, hq.cell 8⟩)
                  have HRQ := Lib.hid (HRR.out.same (same_below HBZ.out) HRR.out.lt)
                  have hne : rb16 ≠ w.heap.size := by have := HRR.out.lt; omega
                  have HBW := Lib.hid (ext_trans HBR.out HBZ.out)
                  clear hrz HRZ HRR HBR HBZ HR1 HW1 HB1 HWR HB KEEP
                  go_wp2_with fail
                  refine wp_region_held_drew (S := fun w' => w'.cell? ⟨rb16, 0, none⟩ = some (.string (bstr a)) ∧ w'.cell? ⟨rb16, 1, none⟩ = some (.string (bstr (unDash b))) ∧ w'.cell? ⟨rb16, 2, none⟩ = some (.int .i64 (numV c)) ∧ w'.cell? ⟨rb16, 3, none⟩ = some (.int .i64 (numV d)) ∧ w'.cell? ⟨rb16, 4, none⟩ = some (.int .i64 (numV ee)) ∧ w'.cell? ⟨rb16, 5, none⟩ = some (.int .i64 (numV f)) ∧ w'.cell? ⟨rb16, 6, none⟩ = some (.int .i64 (numV gg)) ∧ w'.cell? ⟨rb16, 7, none⟩ = some (.int .i64 (kindOf h)) ∧ w'.cell? ⟨rb16, 8, none⟩ = some (.string (bstr (unDash i)))) (by kernel_rfl) (KEEPZ.out _ (fun j hj => rfl)) (fun hHeld => ?_)
                  obtain ⟨wq2, hwq2⟩ : ∃ wq2, wq2 = World.drew wz := ⟨_, rfl⟩
                  have HSQ2 : Hid (Same (fun j => j = rb16) wz wq2) := Lib.hid (by rw [hwq2]; exact fun j hj => rfl)
                  have HRQ2 : Hid (Blk wq2 w.heap.size 28 [.string ⟨#[]⟩, .string ⟨#[]⟩, .int .i64 0, .int .i64 0, .int .i64 0, .int .i64 0, .int .i64 0, .int .i64 0, .string ⟨#[]⟩]) := Lib.hid (by rw [hwq2]; exact HRQ.out)
                  have HBW2 : Hid (Below w.heap.size w wq2) := Lib.hid (by rw [hwq2]; exact Below.drew HBW.out)
                  rw [← hwq2] at hHeld ⊢
                  clear hwq2 HRQ HBW
                  refine wpAnyH_take (i := 0) (v := ?_) rfl (by kernel_rfl) (by kernel_rfl) (by kernel_rfl) (fun _ _ _ h => h) (Or.inl ⟨by rfl, ?_⟩) (by assumption) ?_
                  rotate_left
                  · (intro w hSw; (try (obtain ⟨q0, q1, q2, q3, q4, q5, q6, q7, q8⟩ := hSw)); go_simp; try with_reducible rfl)
                  try simp only [List.getElem_toArray, List.getElem_cons_succ, List.getElem_cons_zero, Act.put, List.setIfInBounds_toArray, List.set_cons_zero, List.set_cons_succ]
                  refine wpAnyH_take (i := 1) (v := ?_) rfl (by kernel_rfl) (by kernel_rfl) (by kernel_rfl) (fun _ _ _ h => h) (Or.inl ⟨by rfl, ?_⟩) (by assumption) ?_
                  rotate_left
                  · (intro w hSw; (try (obtain ⟨q0, q1, q2, q3, q4, q5, q6, q7, q8⟩ := hSw)); go_simp; try with_reducible rfl)
                  try simp only [List.getElem_toArray, List.getElem_cons_succ, List.getElem_cons_zero, Act.put, List.setIfInBounds_toArray, List.set_cons_zero, List.set_cons_succ]
                  refine wpAnyH_take (i := 2) (v := ?_) rfl (by kernel_rfl) (by kernel_rfl) (by kernel_rfl) (fun _ _ _ h => h) (Or.inl ⟨by rfl, ?_⟩) (by assumption) ?_
                  rotate_left
                  · (intro w hSw; (try (obtain ⟨q0, q1, q2, q3, q4, q5, q6, q7, q8⟩ := hSw)); go_simp; try with_reducible rfl)
                  try simp only [List.getElem_toArray, List.getElem_cons_succ, List.getElem_cons_zero, Act.put, List.setIfInBounds_toArray, List.set_cons_zero, List.set_cons_succ]
                  refine wpAnyH_take (i := 3) (v := ?_) rfl (by kernel_rfl) (by kernel_rfl) (by kernel_rfl) (fun _ _ _ h => h) (Or.inl ⟨by rfl, ?_⟩) (by assumption) ?_
                  rotate_left
                  · (intro w hSw; (try (obtain ⟨q0, q1, q2, q3, q4, q5, q6, q7, q8⟩ := hSw)); go_simp; try with_reducible rfl)
                  try simp only [List.getElem_toArray, List.getElem_cons_succ, List.getElem_cons_zero, Act.put, List.setIfInBounds_toArray, List.set_cons_zero, List.set_cons_succ]
                  have hr6 := HRQ2.out
                  have c0 : _ = some (Value.string ⟨#[]⟩) := hr6.cell 0
                  have y0 := hr6.frozen 0
                  have c1 : _ = some (Value.string ⟨#[]⟩) := hr6.cell 1
                  have y1 := hr6.frozen 1
                  have c2 : _ = some (Value.int .i64 0) := hr6.cell 2
                  have y2 := hr6.frozen 2
                  have c3 : _ = some (Value.int .i64 0) := hr6.cell 3
                  have y3 := hr6.frozen 3
                  have c4 : _ = some (Value.int .i64 0) := hr6.cell 4
                  have y4 := hr6.frozen 4
                  have c5 : _ = some (Value.int .i64 0) := hr6.cell 5
                  have y5 := hr6.frozen 5
                  have c6 : _ = some (Value.int .i64 0) := hr6.cell 6
                  have y6 := hr6.frozen 6
                  have c7 : _ = some (Value.int .i64 0) := hr6.cell 7
                  have y7 := hr6.frozen 7
                  have c8 : _ = some (Value.string ⟨#[]⟩) := hr6.cell 8
                  have y8 := hr6.frozen 8
                  refine wpAnyH_ready (rs := [4]) (by kernel_rfl) (by simp) ?_
                  refine AllReadyH.cons rfl (fun K hK => ?_) AllReadyH.nil
                  rw [if_pos (by rfl)]
                  simp only [List.getElem_toArray, List.getElem_cons_succ, List.getElem_cons_zero]
                  go_simp
                  refine hK.out _ _ (KEEPZ.out _ (same_set1 (same_set1 (same_set1 (same_set1 (same_set1 (same_set1 (same_set1 (same_set1 (same_set1 HSQ2.out (g := w.heap.size) hne 0 (.string (bstr a))) (g := w.heap.size) hne 1 (.string (bstr (unDash b)))) (g := w.heap.size) hne 2 (.int .i64 (numV c))) (g := w.heap.size) hne 3 (.int .i64 (numV d))) (g := w.heap.size) hne 4 (.int .i64 (numV ee))) (g := w.heap.size) hne 5 (.int .i64 (numV f))) (g := w.heap.size) hne 6 (.int .i64 (numV gg))) (g := w.heap.size) hne 7 (.int .i64 (kindOf h))) (g := w.heap.size) hne 8 (.string (bstr (unDash i))))) (fun hHeld => ?_)
                  clear hK K c0 y0 c1 y1 c2 y2 c3 y3 c4 y4 c5 y5 c6 y6 c7 y7 c8 y8
                  try simp only [List.getElem_toArray, List.getElem_cons_succ, List.getElem_cons_zero, Act.put, List.setIfInBounds_toArray, List.set_cons_zero, List.set_cons_succ]
                  refine wpAnyH_take (i := 5) (v := ?_) rfl (by kernel_rfl) (by kernel_rfl) (by kernel_rfl) (fun _ _ _ h => h) (Or.inl ⟨by rfl, ?_⟩) (by assumption) ?_
                  rotate_left
                  · (intro w hSw; (try (obtain ⟨q0, q1, q2, q3, q4, q5, q6, q7, q8⟩ := hSw)); go_simp; try with_reducible rfl)
                  try simp only [List.getElem_toArray, List.getElem_cons_succ, List.getElem_cons_zero, Act.put, List.setIfInBounds_toArray, List.set_cons_zero, List.set_cons_succ]
                  refine wpAnyH_done (by kernel_rfl) ?_ _
                  have HBK := Lib.hid (((((((((hr6.set_ 0 (.string (bstr a))).set_ 1 (.string (bstr (unDash b)))).set_ 2 (.int .i64 (numV c))).set_ 3 (.int .i64 (numV d))).set_ 4 (.int .i64 (numV ee))).set_ 5 (.int .i64 (numV f))).set_ 6 (.int .i64 (numV gg))).set_ 7 (.int .i64 (kindOf h))).set_ 8 (.string (bstr (unDash i))))
                  have HBL := Lib.hid (((((((((HBW2.out.setCell (p := ⟨w.heap.size, 0, none⟩) (Nat.le_refl _) (.string (bstr a))).setCell (p := ⟨w.heap.size, 1, none⟩) (Nat.le_refl _) (.string (bstr (unDash b)))).setCell (p := ⟨w.heap.size, 2, none⟩) (Nat.le_refl _) (.int .i64 (numV c))).setCell (p := ⟨w.heap.size, 3, none⟩) (Nat.le_refl _) (.int .i64 (numV d))).setCell (p := ⟨w.heap.size, 4, none⟩) (Nat.le_refl _) (.int .i64 (numV ee))).setCell (p := ⟨w.heap.size, 5, none⟩) (Nat.le_refl _) (.int .i64 (numV f))).setCell (p := ⟨w.heap.size, 6, none⟩) (Nat.le_refl _) (.int .i64 (numV gg))).setCell (p := ⟨w.heap.size, 7, none⟩) (Nat.le_refl _) (.int .i64 (kindOf h))).setCell (p := ⟨w.heap.size, 8, none⟩) (Nat.le_refl _) (.string (bstr (unDash i))))
                  clear hr6 hHeld KEEPZ HSQ2 HRQ2 HBW2
                  generalize hwy : (((((((((wq2.setCell ⟨w.heap.size, 0, none⟩ (.string (bstr a))).setCell ⟨w.heap.size, 1, none⟩ (.string (bstr (unDash b)))).setCell ⟨w.heap.size, 2, none⟩ (.int .i64 (numV c))).setCell ⟨w.heap.size, 3, none⟩ (.int .i64 (numV d))).setCell ⟨w.heap.size, 4, none⟩ (.int .i64 (numV ee))).setCell ⟨w.heap.size, 5, none⟩ (.int .i64 (numV f))).setCell ⟨w.heap.size, 6, none⟩ (.int .i64 (numV gg))).setCell ⟨w.heap.size, 7, none⟩ (.int .i64 (kindOf h))).setCell ⟨w.heap.size, 8, none⟩ (.string (bstr (unDash i)))) = wy at *
                  clear hwy
                  go_wp2_with fail
                  refine bodyPost_ret (results_row2 rfl _ _ w.heap.size 28 [.string (bstr a), .string (bstr (unDash b)), .int .i64 (numV c), .int .i64 (numV d), .int .i64 (numV ee), .int .i64 (numV f), .int .i64 (numV gg), .int .i64 (kindOf h), .string (bstr (unDash i))] _ rfl HBK.out Tryz.underlying28 rfl right_info) rfl ?_
                  exact RlPost.yes HOK.out HBL.out
              · rw [if_pos (by rfl)]
                simp only [List.getElem_toArray, List.getElem_cons_succ, List.getElem_cons_zero]
                go_simp
                have BA20 := Lib.hid (BK3.out.alloc BK3.out.size (.cells #[.string ⟨#[]⟩, .string ⟨#[]⟩, .int .i64 0, .int .i64 0, .int .i64 0, .int .i64 0, .int .i64 0, .int .i64 0, .string ⟨#[]⟩] 28))
                refine hK.out _ _ (KEEP.out _ BA20.out) (fun hHeld => ?_)
                clear hK K
                try simp only [List.getElem_toArray, List.getElem_cons_succ, List.getElem_cons_zero, Act.put, List.setIfInBounds_toArray, List.set_cons_zero, List.set_cons_succ]
                have HA21 := Lib.hid (Blk.new wk2 28 [.string ⟨#[]⟩, .string ⟨#[]⟩, .int .i64 0, .int .i64 0, .int .i64 0, .int .i64 0, .int .i64 0, .int .i64 0, .string ⟨#[]⟩])
                have hrb : wr.heap.size ≤ wk2.heap.size := BK3.out.size
                have HK23 := Lib.hid (HK4.out.same (same_below ((Below.refl wk2.heap.size wk2).alloc (Nat.le_refl _) (.cells #[.string ⟨#[]⟩, .string ⟨#[]⟩, .int .i64 0, .int .i64 0, .int .i64 0, .int .i64 0, .int .i64 0, .int .i64 0, .string ⟨#[]⟩] 28))) HK4.out.lt)
                generalize hwa : wk2.alloc (.cells #[.string ⟨#[]⟩, .string ⟨#[]⟩, .int .i64 0, .int .i64 0, .int .i64 0, .int .i64 0, .int .i64 0, .int .i64 0, .string ⟨#[]⟩] 28) = wa19 at *
                generalize wk2.heap.size = rb22 at *
                clear hwa
                refine wpAnyH_ready (rs := [26]) (by kernel_rfl) (by simp) ?_
                refine AllReadyH.cons rfl (fun K hK => ?_) AllReadyH.nil
                rw [if_pos (by rfl)]
                simp only [List.getElem_toArray, List.getElem_cons_succ, List.getElem_cons_zero]
                go_simp
                go_at_call 32
                refine (kindIx_any kb5 h wa19 HK23.out).mono ?_
                rintro e wu ⟨rfl, hwu⟩
                subst hwu
                show K _ wu
                refine hK.out _ _ (KEEP.out _ BA20.out) (fun hHeld => ?_)
                clear hK K
                try simp only [List.getElem_toArray, List.getElem_cons_succ, List.getElem_cons_zero, Act.put, List.setIfInBounds_toArray, List.set_cons_zero, List.set_cons_succ]
                refine wpAnyH_take (i := 27) (v := ?_) rfl (by kernel_rfl) (by kernel_rfl) (by kernel_rfl) (fun _ _ _ h => h) (Or.inl ⟨by rfl, ?_⟩) (by assumption) ?_
                rotate_left
                · (intro w hSw; (try (obtain ⟨q0, q1, q7, q8, r0, r1, r2, r3, r4⟩ := hSw)); go_simp; (try rw [if_neg (by omega)]); (try simp only [HWQ.out]); try with_reducible rfl)
                try simp only [List.getElem_toArray, List.getElem_cons_succ, List.getElem_cons_zero, Act.put, List.setIfInBounds_toArray, List.set_cons_zero, List.set_cons_succ]
                refine wpAnyH_ready (rs := [31]) (by kernel_rfl) (by simp) ?_
                refine AllReadyH.cons rfl (fun K hK => ?_) AllReadyH.nil
                rw [if_pos (by rfl)]
                simp only [List.getElem_toArray, List.getElem_cons_succ, List.getElem_cons_zero]
                go_simp
                go_at_call 31
                refine (undash_any i wu).mono ?_
                rintro e wu ⟨rfl, hwu⟩
                subst hwu
                show K _ wu
                refine hK.out _ _ (KEEP.out _ BA20.out) (fun hHeld => ?_)
                clear hK K
                try simp only [List.getElem_toArray, List.getElem_cons_succ, List.getElem_cons_zero, Act.put, List.setIfInBounds_toArray, List.set_cons_zero, List.set_cons_succ]
                refine wpAnyH_take (i := 32) (v := ?_) rfl (by kernel_rfl) (by kernel_rfl) (by kernel_rfl) (fun _ _ _ h => h) (Or.inl ⟨by rfl, ?_⟩) (by assumption) ?_
                rotate_left
                · (intro w hSw; (try (obtain ⟨q0, q1, q7, q8, r0, r1, r2, r3, r4⟩ := hSw)); go_simp; (try rw [if_neg (by omega)]); (try simp only [HWQ.out]); try with_reducible rfl)
                try simp only [List.getElem_toArray, List.getElem_cons_succ, List.getElem_cons_zero, Act.put, List.setIfInBounds_toArray, List.set_cons_zero, List.set_cons_succ]
                have hr5 := HA21.out
                have c0 : _ = some (Value.string ⟨#[]⟩) := hr5.cell 0
                have y0 := hr5.frozen 0
                have c1 : _ = some (Value.string ⟨#[]⟩) := hr5.cell 1
                have y1 := hr5.frozen 1
                have c2 : _ = some (Value.int .i64 0) := hr5.cell 2
                have y2 := hr5.frozen 2
                have c3 : _ = some (Value.int .i64 0) := hr5.cell 3
                have y3 := hr5.frozen 3
                have c4 : _ = some (Value.int .i64 0) := hr5.cell 4
                have y4 := hr5.frozen 4
                have c5 : _ = some (Value.int .i64 0) := hr5.cell 5
                have y5 := hr5.frozen 5
                have c6 : _ = some (Value.int .i64 0) := hr5.cell 6
                have y6 := hr5.frozen 6
                have c7 : _ = some (Value.int .i64 0) := hr5.cell 7
                have y7 := hr5.frozen 7
                have c8 : _ = some (Value.string ⟨#[]⟩) := hr5.cell 8
                have y8 := hr5.frozen 8
                refine wpAnyH_ready (rs := [34]) (by kernel_rfl) (by simp) ?_
                refine AllReadyH.cons rfl (fun K hK => ?_) AllReadyH.nil
                rw [if_pos (by rfl)]
                simp only [List.getElem_toArray, List.getElem_cons_succ, List.getElem_cons_zero]
                go_simp
                refine hK.out _ _ (KEEP.out _ (((((((((BA20.out.setCell (p := ⟨rb22, 0, none⟩) hrb (.string (bstr a))).setCell (p := ⟨rb22, 1, none⟩) hrb (.string (bstr (unDash b)))).setCell (p := ⟨rb22, 2, none⟩) hrb (.int .i64 (numV c))).setCell (p := ⟨rb22, 3, none⟩) hrb (.int .i64 (numV d))).setCell (p := ⟨rb22, 4, none⟩) hrb (.int .i64 (numV ee))).setCell (p := ⟨rb22, 5, none⟩) hrb (.int .i64 (numV f))).setCell (p := ⟨rb22, 6, none⟩) hrb (.int .i64 (numV gg))).setCell (p := ⟨rb22, 7, none⟩) hrb (.int .i64 (kindOf h))).setCell (p := ⟨rb22, 8, none⟩) hrb (.string (bstr (unDash i))))) (fun hHeld => ?_)
                clear hK K hHeld c0 y0 c1 y1 c2 y2 c3 y3 c4 y4 c5 y5 c6 y6 c7 y7 c8 y8
                try simp only [List.getElem_toArray, List.getElem_cons_succ, List.getElem_cons_zero, Act.put, List.setIfInBounds_toArray, List.set_cons_zero, List.set_cons_succ]
                refine wpAnyH_done (by kernel_rfl) ?_ _
                have HRZ := Lib.hid (((((((((hr5.set_ 0 (.string (bstr a))).set_ 1 (.string (bstr (unDash b)))).set_ 2 (.int .i64 (numV c))).set_ 3 (.int .i64 (numV d))).set_ 4 (.int .i64 (numV ee))).set_ 5 (.int .i64 (numV f))).set_ 6 (.int .i64 (numV gg))).set_ 7 (.int .i64 (kindOf h))).set_ 8 (.string (bstr (unDash i))))
                have HBZ := Lib.hid (((((((((BA20.out.setCell (p := ⟨rb22, 0, none⟩) hrb (.string (bstr a))).setCell (p := ⟨rb22, 1, none⟩) hrb (.string (bstr (unDash b)))).setCell (p := ⟨rb22, 2, none⟩) hrb (.int .i64 (numV c))).setCell (p := ⟨rb22, 3, none⟩) hrb (.int .i64 (numV d))).setCell (p := ⟨rb22, 4, none⟩) hrb (.int .i64 (numV ee))).setCell (p := ⟨rb22, 5, none⟩) hrb (.int .i64 (numV f))).setCell (p := ⟨rb22, 6, none⟩) hrb (.int .i64 (numV gg))).setCell (p := ⟨rb22, 7, none⟩) hrb (.int .i64 (kindOf h))).setCell (p := ⟨rb22, 8, none⟩) hrb (.string (bstr (unDash i))))
                clear hr5
                generalize hwz : (((((((((wu.setCell ⟨rb22, 0, none⟩ (.string (bstr a))).setCell ⟨rb22, 1, none⟩ (.string (bstr (unDash b)))).setCell ⟨rb22, 2, none⟩ (.int .i64 (numV c))).setCell ⟨rb22, 3, none⟩ (.int .i64 (numV d))).setCell ⟨rb22, 4, none⟩ (.int .i64 (numV ee))).setCell ⟨rb22, 5, none⟩ (.int .i64 (numV f))).setCell ⟨rb22, 6, none⟩ (.int .i64 (numV gg))).setCell ⟨rb22, 7, none⟩ (.int .i64 (kindOf h))).setCell ⟨rb22, 8, none⟩ (.string (bstr (unDash i)))) = wz at *
                clear hwz
                have hrz := HRZ.out
                simp only [List.set_cons_zero, List.set_cons_succ] at hrz
                have KEEPZ : Hid (∀ w', Same (fun j => j = rb22) wz w' → (w'.cell? ⟨rb22, 0, none⟩ = some (.string (bstr a)) ∧ w'.cell? ⟨rb22, 1, none⟩ = some (.string (bstr (unDash b))) ∧ w'.cell? ⟨rb22, 2, none⟩ = some (.int .i64 (numV c)) ∧ w'.cell? ⟨rb22, 3, none⟩ = some (.int .i64 (numV d)) ∧ w'.cell? ⟨rb22, 4, none⟩ = some (.int .i64 (numV ee)) ∧ w'.cell? ⟨rb22, 5, none⟩ = some (.int .i64 (numV f)) ∧ w'.cell? ⟨rb22, 6, none⟩ = some (.int .i64 (numV gg)) ∧ w'.cell? ⟨rb22, 7, none⟩ = some (.int .i64 (kindOf h)) ∧ w'.cell? ⟨rb22, 8, none⟩ = some (.string (bstr (unDash i))))) := Lib.hid (fun w' hsm => by
                  have hq := hrz.same hsm rfl
                  exact ⟨hq.cell 0, hq.cell 1, hq.cell 2, hq.cell 3, hq.cell 4, hq.cell 5, hq.cell 6, hq.cell 7, hq.cell 8⟩)
                have HRQ := Lib.hid (HRR.out.same (same_below HBZ.out) HRR.out.lt)
                have hne : rb22 ≠ w.heap.size := by have := HRR.out.lt; omega
                have HBW := Lib.hid (ext_trans HBR.out HBZ.out)
                clear hrz HRZ HRR HBR HBZ HR1 HW1 HB1 HWR HB KEEP
                go_wp2_with fail
                refine wp_region_held_drew (S := fun w' => w'.cell? ⟨rb22, 0, none⟩ = some (.string (bstr a)) ∧ w'.cell? ⟨rb22, 1, none⟩ = some (.string (bstr (unDash b))) ∧ w'.cell? ⟨rb22, 2, none⟩ = some (.int .i64 (numV c)) ∧ w'.cell? ⟨rb22, 3, none⟩ = some (.int .i64 (numV d)) ∧ w'.cell? ⟨rb22, 4, none⟩ = some (.int .i64 (numV ee)) ∧ w'.cell? ⟨rb22, 5, none⟩ = some (.int .i64 (numV f)) ∧ w'.cell? ⟨rb22, 6, none⟩ = some (.int .i64 (numV gg)) ∧ w'.cell? ⟨rb22, 7, none⟩ = some (.int .i64 (kindOf h)) ∧ w'.cell? ⟨rb22, 8, none⟩ = some (.string (bstr (unDash i)))) (by kernel_rfl) (KEEPZ.out _ (fun j hj => rfl)) (fun hHeld => ?_)
                obtain ⟨wq2, hwq2⟩ : ∃ wq2, wq2 = World.drew wz := ⟨_, rfl⟩
                have HSQ2 : Hid (Same (fun j => j = rb22) wz wq2) := Lib.hid (by rw [hwq2]; exact fun j hj => rfl)
                have HRQ2 : Hid (Blk wq2 w.heap.size 28 [.string ⟨#[]⟩, .string ⟨#[]⟩, .int .i64 0, .int .i64 0, .int .i64 0, .int .i64 0, .int .i64 0, .int .i64 0, .string ⟨#[]⟩]) := Lib.hid (by rw [hwq2]; exact HRQ.out)
                have HBW2 : Hid (Below w.heap.size w wq2) := Lib.hid (by rw [hwq2]; exact Below.drew HBW.out)
                rw [← hwq2] at hHeld ⊢
                clear hwq2 HRQ HBW
                refine wpAnyH_take (i := 0) (v := ?_) rfl (by kernel_rfl) (by kernel_rfl) (by kernel_rfl) (fun _ _ _ h => h) (Or.inl ⟨by rfl, ?_⟩) (by assumption) ?_
                rotate_left
                · (intro w hSw; (try (obtain ⟨q0, q1, q2, q3, q4, q5, q6, q7, q8⟩ := hSw)); go_simp; try with_reducible rfl)
                try simp only [List.getElem_toArray, List.getElem_cons_succ, List.getElem_cons_zero, Act.put, List.setIfInBounds_toArray, List.set_cons_zero, List.set_cons_succ]
                refine wpAnyH_take (i := 1) (v := ?_) rfl (by kernel_rfl) (by kernel_rfl) (by kernel_rfl) (fun _ _ _ h => h) (Or.inl ⟨by rfl, ?_⟩) (by assumption) ?_
                rotate_left
                · (intro w hSw; (try (obtain ⟨q0, q1, q2, q3, q4, q5, q6, q7, q8⟩ := hSw)); go_simp; try with_reducible rfl)
                try simp only [List.getElem_toArray, List.getElem_cons_succ, List.getElem_cons_zero, Act.put, List.setIfInBounds_toArray, List.set_cons_zero, List.set_cons_succ]
                refine wpAnyH_take (i := 2) (v := ?_) rfl (by kernel_rfl) (by kernel_rfl) (by kernel_rfl) (fun _ _ _ h => h) (Or.inl ⟨by rfl, ?_⟩) (by assumption) ?_
                rotate_left
                · (intro w hSw; (try (obtain ⟨q0, q1, q2, q3, q4, q5, q6, q7, q8⟩ := hSw)); go_simp; try with_reducible rfl)
                try simp only [List.getElem_toArray, List.getElem_cons_succ, List.getElem_cons_zero, Act.put, List.setIfInBounds_toArray, List.set_cons_zero, List.set_cons_succ]
                refine wpAnyH_take (i := 3) (v := ?_) rfl (by kernel_rfl) (by kernel_rfl) (by kernel_rfl) (fun _ _ _ h => h) (Or.inl ⟨by rfl, ?_⟩) (by assumption) ?_
                rotate_left
                · (intro w hSw; (try (obtain ⟨q0, q1, q2, q3, q4, q5, q6, q7, q8⟩ := hSw)); go_simp; try with_reducible rfl)
                try simp only [List.getElem_toArray, List.getElem_cons_succ, List.getElem_cons_zero, Act.put, List.setIfInBounds_toArray, List.set_cons_zero, List.set_cons_succ]
                have hr6 := HRQ2.out
                have c0 : _ = some (Value.string ⟨#[]⟩) := hr6.cell 0
                have y0 := hr6.frozen 0
                have c1 : _ = some (Value.string ⟨#[]⟩) := hr6.cell 1
                have y1 := hr6.frozen 1
                have c2 : _ = some (Value.int .i64 0) := hr6.cell 2
                have y2 := hr6.frozen 2
                have c3 : _ = some (Value.int .i64 0) := hr6.cell 3
                have y3 := hr6.frozen 3
                have c4 : _ = some (Value.int .i64 0) := hr6.cell 4
                have y4 := hr6.frozen 4
                have c5 : _ = some (Value.int .i64 0) := hr6.cell 5
                have y5 := hr6.frozen 5
                have c6 : _ = some (Value.int .i64 0) := hr6.cell 6
                have y6 := hr6.frozen 6
                have c7 : _ = some (Value.int .i64 0) := hr6.cell 7
                have y7 := hr6.frozen 7
                have c8 : _ = some (Value.string ⟨#[]⟩) := hr6.cell 8
                have y8 := hr6.frozen 8
                refine wpAnyH_ready (rs := [4]) (by kernel_rfl) (by simp) ?_
                refine AllReadyH.cons rfl (fun K hK => ?_) AllReadyH.nil
                rw [if_pos (by rfl)]
                simp only [List.getElem_toArray, List.getElem_cons_succ, List.getElem_cons_zero]
                go_simp
                refine hK.out _ _ (KEEPZ.out _ (same_set1 (same_set1 (same_set1 (same_set1 (same_set1 (same_set1 (same_set1 (same_set1 (same_set1 HSQ2.out (g := w.heap.size) hne 0 (.string (bstr a))) (g := w.heap.size) hne 1 (.string (bstr (unDash b)))) (g := w.heap.size) hne 2 (.int .i64 (numV c))) (g := w.heap.size) hne 3 (.int .i64 (numV d))) (g := w.heap.size) hne 4 (.int .i64 (numV ee))) (g := w.heap.size) hne 5 (.int .i64 (numV f))) (g := w.heap.size) hne 6 (.int .i64 (numV gg))) (g := w.heap.size) hne 7 (.int .i64 (kindOf h))) (g := w.heap.size) hne 8 (.string (bstr (unDash i))))) (fun hHeld => ?_)
                clear hK K c0 y0 c1 y1 c2 y2 c3 y3 c4 y4 c5 y5 c6 y6 c7 y7 c8 y8
                try simp only [List.getElem_toArray, List.getElem_cons_succ, List.getElem_cons_zero, Act.put, List.setIfInBounds_toArray, List.set_cons_zero, List.set_cons_succ]
                refine wpAnyH_take (i := 5) (v := ?_) rfl (by kernel_rfl) (by kernel_rfl) (by kernel_rfl) (fun _ _ _ h => h) (Or.inl ⟨by rfl, ?_⟩) (by assumption) ?_
                rotate_left
                · (intro w hSw; (try (obtain ⟨q0, q1, q2, q3, q4, q5, q6, q7, q8⟩ := hSw)); go_simp; try with_reducible rfl)
                try simp only [List.getElem_toArray, List.getElem_cons_succ, List.getElem_cons_zero, Act.put, List.setIfInBounds_toArray, List.set_cons_zero, List.set_cons_succ]
                refine wpAnyH_done (by kernel_rfl) ?_ _
                have HBK := Lib.hid (((((((((hr6.set_ 0 (.string (bstr a))).set_ 1 (.string (bstr (unDash b)))).set_ 2 (.int .i64 (numV c))).set_ 3 (.int .i64 (numV d))).set_ 4 (.int .i64 (numV ee))).set_ 5 (.int .i64 (numV f))).set_ 6 (.int .i64 (numV gg))).set_ 7 (.int .i64 (kindOf h))).set_ 8 (.string (bstr (unDash i))))
                have HBL := Lib.hid (((((((((HBW2.out.setCell (p := ⟨w.heap.size, 0, none⟩) (Nat.le_refl _) (.string (bstr a))).setCell (p := ⟨w.heap.size, 1, none⟩) (Nat.le_refl _) (.string (bstr (unDash b)))).setCell (p := ⟨w.heap.size, 2, none⟩) (Nat.le_refl _) (.int .i64 (numV c))).setCell (p := ⟨w.heap.size, 3, none⟩) (Nat.le_refl _) (.int .i64 (numV d))).setCell (p := ⟨w.heap.size, 4, none⟩) (Nat.le_refl _) (.int .i64 (numV ee))).setCell (p := ⟨w.heap.size, 5, none⟩) (Nat.le_refl _) (.int .i64 (numV f))).setCell (p := ⟨w.heap.size, 6, none⟩) (Nat.le_refl _) (.int .i64 (numV gg))).setCell (p := ⟨w.heap.size, 7, none⟩) (Nat.le_refl _) (.int .i64 (kindOf h))).setCell (p := ⟨w.heap.size, 8, none⟩) (Nat.le_refl _) (.string (bstr (unDash i))))
                clear hr6 hHeld KEEPZ HSQ2 HRQ2 HBW2
                generalize hwy : (((((((((wq2.setCell ⟨w.heap.size, 0, none⟩ (.string (bstr a))).setCell ⟨w.heap.size, 1, none⟩ (.string (bstr (unDash b)))).setCell ⟨w.heap.size, 2, none⟩ (.int .i64 (numV c))).setCell ⟨w.heap.size, 3, none⟩ (.int .i64 (numV d))).setCell ⟨w.heap.size, 4, none⟩ (.int .i64 (numV ee))).setCell ⟨w.heap.size, 5, none⟩ (.int .i64 (numV f))).setCell ⟨w.heap.size, 6, none⟩ (.int .i64 (numV gg))).setCell ⟨w.heap.size, 7, none⟩ (.int .i64 (kindOf h))).setCell ⟨w.heap.size, 8, none⟩ (.string (bstr (unDash i)))) = wy at *
                clear hwy
                go_wp2_with fail
                refine bodyPost_ret (results_row2 rfl _ _ w.heap.size 28 [.string (bstr a), .string (bstr (unDash b)), .int .i64 (numV c), .int .i64 (numV d), .int .i64 (numV ee), .int .i64 (numV f), .int .i64 (numV gg), .int .i64 (kindOf h), .string (bstr (unDash i))] _ rfl HBK.out Tryz.underlying28 rfl right_info) rfl ?_
                exact RlPost.yes HOK.out HBL.out
            · rw [if_pos (by rfl)]
              simp only [List.getElem_toArray, List.getElem_cons_succ, List.getElem_cons_zero]
              go_simp
              have BA27 := Lib.hid (HGq.out.alloc HGq.out.size (.cells #[.string ⟨#[]⟩, .string ⟨#[]⟩, .int .i64 0, .int .i64 0, .int .i64 0, .int .i64 0, .int .i64 0, .int .i64 0, .string ⟨#[]⟩] 28))
              refine hK.out _ _ (KEEP.out _ BA27.out) (fun hHeld => ?_)
              clear hK K
              try simp only [List.getElem_toArray, List.getElem_cons_succ, List.getElem_cons_zero, Act.put, List.setIfInBounds_toArray, List.set_cons_zero, List.set_cons_succ]
              have HA28 := Lib.hid (Blk.new wu 28 [.string ⟨#[]⟩, .string ⟨#[]⟩, .int .i64 0, .int .i64 0, .int .i64 0, .int .i64 0, .int .i64 0, .int .i64 0, .string ⟨#[]⟩])
              have hrb : wr.heap.size ≤ wu.heap.size := HGq.out.size
              generalize hwa : wu.alloc (.cells #[.string ⟨#[]⟩, .string ⟨#[]⟩, .int .i64 0, .int .i64 0, .int .i64 0, .int .i64 0, .int .i64 0, .int .i64 0, .string ⟨#[]⟩] 28) = wa26 at *
              generalize wu.heap.size = rb29 at *
              clear hwa
              refine wpAnyH_ready (rs := [22]) (by kernel_rfl) (by simp) ?_
              refine AllReadyH.cons rfl (fun K hK => ?_) AllReadyH.nil
              rw [if_pos (by rfl)]
              simp only [List.getElem_toArray, List.getElem_cons_succ, List.getElem_cons_zero]
              go_simp
              go_at_call 21
              refine (kinds_any wa26).mono ?_
              rintro e wk30 ⟨rfl, hwk⟩
              have hbk := (Below.refl wa26.heap.size wa26).alloc (Nat.le_refl _) (.cells (kindRow.map fun x => Value.string (bstr x)).toArray 9)
              have hkk := Blk.new wa26 9 (kindRow.map fun x => Value.string (bstr x))
              rw [← hwk] at hbk hkk
              clear hwk
              have BK31 := Lib.hid (ext_trans BA27.out hbk)
              have HK32 := Lib.hid hkk
              have HA34 := Lib.hid (HA28.out.same (same_below hbk) HA28.out.lt)
              clear hbk hkk
              generalize wa26.heap.size = kb33 at *
              show K _ wk30
              refine hK.out _ _ (KEEP.out _ BK31.out) (fun hHeld => ?_)
              clear hK K
              try simp only [List.getElem_toArray, List.getElem_cons_succ, List.getElem_cons_zero, Act.put, List.setIfInBounds_toArray, List.set_cons_zero, List.set_cons_succ]
              refine wpAnyH_ready (rs := [26]) (by kernel_rfl) (by simp) ?_
              refine AllReadyH.cons rfl (fun K hK => ?_) AllReadyH.nil
              rw [if_pos (by rfl)]
              simp only [List.getElem_toArray, List.getElem_cons_succ, List.getElem_cons_zero]
              go_simp
              go_at_call 32
              refine (kindIx_any kb33 h wk30 HK32.out).mono ?_
              rintro e wu ⟨rfl, hwu⟩
              subst hwu
              show K _ wu
              refine hK.out _ _ (KEEP.out _ BK31.out) (fun hHeld => ?_)
              clear hK K
              try simp only [List.getElem_toArray, List.getElem_cons_succ, List.getElem_cons_zero, Act.put, List.setIfInBounds_toArray, List.set_cons_zero, List.set_cons_succ]
              refine wpAnyH_take (i := 27) (v := ?_) rfl (by kernel_rfl) (by kernel_rfl) (by kernel_rfl) (fun _ _ _ h => h) (Or.inl ⟨by rfl, ?_⟩) (by assumption) ?_
              rotate_left
              · (intro w hSw; (try (obtain ⟨q0, q1, q7, q8, r0, r1, r2, r3, r4⟩ := hSw)); go_simp; (try rw [if_neg (by omega)]); (try simp only [HWQ.out]); try with_reducible rfl)
              try simp only [List.getElem_toArray, List.getElem_cons_succ, List.getElem_cons_zero, Act.put, List.setIfInBounds_toArray, List.set_cons_zero, List.set_cons_succ]
              refine wpAnyH_ready (rs := [31]) (by kernel_rfl) (by simp) ?_
              refine AllReadyH.cons rfl (fun K hK => ?_) AllReadyH.nil
              rw [if_pos (by rfl)]
              simp only [List.getElem_toArray, List.getElem_cons_succ, List.getElem_cons_zero]
              go_simp
              go_at_call 31
              refine (undash_any i wu).mono ?_
              rintro e wu ⟨rfl, hwu⟩
              subst hwu
              show K _ wu
              refine hK.out _ _ (KEEP.out _ BK31.out) (fun hHeld => ?_)
              clear hK K
              try simp only [List.getElem_toArray, List.getElem_cons_succ, List.getElem_cons_zero, Act.put, List.setIfInBounds_toArray, List.set_cons_zero, List.set_cons_succ]
              refine wpAnyH_take (i := 32) (v := ?_) rfl (by kernel_rfl) (by kernel_rfl) (by kernel_rfl) (fun _ _ _ h => h) (Or.inl ⟨by rfl, ?_⟩) (by assumption) ?_
              rotate_left
              · (intro w hSw; (try (obtain ⟨q0, q1, q7, q8, r0, r1, r2, r3, r4⟩ := hSw)); go_simp; (try rw [if_neg (by omega)]); (try simp only [HWQ.out]); try with_reducible rfl)
              try simp only [List.getElem_toArray, List.getElem_cons_succ, List.getElem_cons_zero, Act.put, List.setIfInBounds_toArray, List.set_cons_zero, List.set_cons_succ]
              have hr5 := HA34.out
              have c0 : _ = some (Value.string ⟨#[]⟩) := hr5.cell 0
              have y0 := hr5.frozen 0
              have c1 : _ = some (Value.string ⟨#[]⟩) := hr5.cell 1
              have y1 := hr5.frozen 1
              have c2 : _ = some (Value.int .i64 0) := hr5.cell 2
              have y2 := hr5.frozen 2
              have c3 : _ = some (Value.int .i64 0) := hr5.cell 3
              have y3 := hr5.frozen 3
              have c4 : _ = some (Value.int .i64 0) := hr5.cell 4
              have y4 := hr5.frozen 4
              have c5 : _ = some (Value.int .i64 0) := hr5.cell 5
              have y5 := hr5.frozen 5
              have c6 : _ = some (Value.int .i64 0) := hr5.cell 6
              have y6 := hr5.frozen 6
              have c7 : _ = some (Value.int .i64 0) := hr5.cell 7
              have y7 := hr5.frozen 7
              have c8 : _ = some (Value.string ⟨#[]⟩) := hr5.cell 8
              have y8 := hr5.frozen 8
              refine wpAnyH_ready (rs := [34]) (by kernel_rfl) (by simp) ?_
              refine AllReadyH.cons rfl (fun K hK => ?_) AllReadyH.nil
              rw [if_pos (by rfl)]
              simp only [List.getElem_toArray, List.getElem_cons_succ, List.getElem_cons_zero]
              go_simp
              refine hK.out _ _ (KEEP.out _ (((((((((BK31.out.setCell (p := ⟨rb29, 0, none⟩) hrb (.string (bstr a))).setCell (p := ⟨rb29, 1, none⟩) hrb (.string (bstr (unDash b)))).setCell (p := ⟨rb29, 2, none⟩) hrb (.int .i64 (numV c))).setCell (p := ⟨rb29, 3, none⟩) hrb (.int .i64 (numV d))).setCell (p := ⟨rb29, 4, none⟩) hrb (.int .i64 (numV ee))).setCell (p := ⟨rb29, 5, none⟩) hrb (.int .i64 (numV f))).setCell (p := ⟨rb29, 6, none⟩) hrb (.int .i64 (numV gg))).setCell (p := ⟨rb29, 7, none⟩) hrb (.int .i64 (kindOf h))).setCell (p := ⟨rb29, 8, none⟩) hrb (.string (bstr (unDash i))))) (fun hHeld => ?_)
              clear hK K hHeld c0 y0 c1 y1 c2 y2 c3 y3 c4 y4 c5 y5 c6 y6 c7 y7 c8 y8
              try simp only [List.getElem_toArray, List.getElem_cons_succ, List.getElem_cons_zero, Act.put, List.setIfInBounds_toArray, List.set_cons_zero, List.set_cons_succ]
              refine wpAnyH_done (by kernel_rfl) ?_ _
              have HRZ := Lib.hid (((((((((hr5.set_ 0 (.string (bstr a))).set_ 1 (.string (bstr (unDash b)))).set_ 2 (.int .i64 (numV c))).set_ 3 (.int .i64 (numV d))).set_ 4 (.int .i64 (numV ee))).set_ 5 (.int .i64 (numV f))).set_ 6 (.int .i64 (numV gg))).set_ 7 (.int .i64 (kindOf h))).set_ 8 (.string (bstr (unDash i))))
              have HBZ := Lib.hid (((((((((BK31.out.setCell (p := ⟨rb29, 0, none⟩) hrb (.string (bstr a))).setCell (p := ⟨rb29, 1, none⟩) hrb (.string (bstr (unDash b)))).setCell (p := ⟨rb29, 2, none⟩) hrb (.int .i64 (numV c))).setCell (p := ⟨rb29, 3, none⟩) hrb (.int .i64 (numV d))).setCell (p := ⟨rb29, 4, none⟩) hrb (.int .i64 (numV ee))).setCell (p := ⟨rb29, 5, none⟩) hrb (.int .i64 (numV f))).setCell (p := ⟨rb29, 6, none⟩) hrb (.int .i64 (numV gg))).setCell (p := ⟨rb29, 7, none⟩) hrb (.int .i64 (kindOf h))).setCell (p := ⟨rb29, 8, none⟩) hrb (.string (bstr (unDash i))))
              clear hr5
              generalize hwz : (((((((((wu.setCell ⟨rb29, 0, none⟩ (.string (bstr a))).setCell ⟨rb29, 1, none⟩ (.string (bstr (unDash b)))).setCell ⟨rb29, 2, none⟩ (.int .i64 (numV c))).setCell ⟨rb29, 3, none⟩ (.int .i64 (numV d))).setCell ⟨rb29, 4, none⟩ (.int .i64 (numV ee))).setCell ⟨rb29, 5, none⟩ (.int .i64 (numV f))).setCell ⟨rb29, 6, none⟩ (.int .i64 (numV gg))).setCell ⟨rb29, 7, none⟩ (.int .i64 (kindOf h))).setCell ⟨rb29, 8, none⟩ (.string (bstr (unDash i)))) = wz at *
              clear hwz
              have hrz := HRZ.out
              simp only [List.set_cons_zero, List.set_cons_succ] at hrz
              have KEEPZ : Hid (∀ w', Same (fun j => j = rb29) wz w' → (w'.cell? ⟨rb29, 0, none⟩ = some (.string (bstr a)) ∧ w'.cell? ⟨rb29, 1, none⟩ = some (.string (bstr (unDash b))) ∧ w'.cell? ⟨rb29, 2, none⟩ = some (.int .i64 (numV c)) ∧ w'.cell? ⟨rb29, 3, none⟩ = some (.int .i64 (numV d)) ∧ w'.cell? ⟨rb29, 4, none⟩ = some (.int .i64 (numV ee)) ∧ w'.cell? ⟨rb29, 5, none⟩ = some (.int .i64 (numV f)) ∧ w'.cell? ⟨rb29, 6, none⟩ = some (.int .i64 (numV gg)) ∧ w'.cell? ⟨rb29, 7, none⟩ = some (.int .i64 (kindOf h)) ∧ w'.cell? ⟨rb29, 8, none⟩ = some (.string (bstr (unDash i))))) := Lib.hid (fun w' hsm => by
                have hq := hrz.same hsm rfl
                exact ⟨hq.cell 0, hq.cell 1, hq.cell 2, hq.cell 3, hq.cell 4, hq.cell 5, hq.cell 6, hq.cell 7, hq.cell 8⟩)
              have HRQ := Lib.hid (HRR.out.same (same_below HBZ.out) HRR.out.lt)
              have hne : rb29 ≠ w.heap.size := by have := HRR.out.lt; omega
              have HBW := Lib.hid (ext_trans HBR.out HBZ.out)
              clear hrz HRZ HRR HBR HBZ HR1 HW1 HB1 HWR HB KEEP
              go_wp2_with fail
              refine wp_region_held_drew (S := fun w' => w'.cell? ⟨rb29, 0, none⟩ = some (.string (bstr a)) ∧ w'.cell? ⟨rb29, 1, none⟩ = some (.string (bstr (unDash b))) ∧ w'.cell? ⟨rb29, 2, none⟩ = some (.int .i64 (numV c)) ∧ w'.cell? ⟨rb29, 3, none⟩ = some (.int .i64 (numV d)) ∧ w'.cell? ⟨rb29, 4, none⟩ = some (.int .i64 (numV ee)) ∧ w'.cell? ⟨rb29, 5, none⟩ = some (.int .i64 (numV f)) ∧ w'.cell? ⟨rb29, 6, none⟩ = some (.int .i64 (numV gg)) ∧ w'.cell? ⟨rb29, 7, none⟩ = some (.int .i64 (kindOf h)) ∧ w'.cell? ⟨rb29, 8, none⟩ = some (.string (bstr (unDash i)))) (by kernel_rfl) (KEEPZ.out _ (fun j hj => rfl)) (fun hHeld => ?_)
              obtain ⟨wq2, hwq2⟩ : ∃ wq2, wq2 = World.drew wz := ⟨_, rfl⟩
              have HSQ2 : Hid (Same (fun j => j = rb29) wz wq2) := Lib.hid (by rw [hwq2]; exact fun j hj => rfl)
              have HRQ2 : Hid (Blk wq2 w.heap.size 28 [.string ⟨#[]⟩, .string ⟨#[]⟩, .int .i64 0, .int .i64 0, .int .i64 0, .int .i64 0, .int .i64 0, .int .i64 0, .string ⟨#[]⟩]) := Lib.hid (by rw [hwq2]; exact HRQ.out)
              have HBW2 : Hid (Below w.heap.size w wq2) := Lib.hid (by rw [hwq2]; exact Below.drew HBW.out)
              rw [← hwq2] at hHeld ⊢
              clear hwq2 HRQ HBW
              refine wpAnyH_take (i := 0) (v := ?_) rfl (by kernel_rfl) (by kernel_rfl) (by kernel_rfl) (fun _ _ _ h => h) (Or.inl ⟨by rfl, ?_⟩) (by assumption) ?_
              rotate_left
              · (intro w hSw; (try (obtain ⟨q0, q1, q2, q3, q4, q5, q6, q7, q8⟩ := hSw)); go_simp; try with_reducible rfl)
              try simp only [List.getElem_toArray, List.getElem_cons_succ, List.getElem_cons_zero, Act.put, List.setIfInBounds_toArray, List.set_cons_zero, List.set_cons_succ]
              refine wpAnyH_take (i := 1) (v := ?_) rfl (by kernel_rfl) (by kernel_rfl) (by kernel_rfl) (fun _ _ _ h => h) (Or.inl ⟨by rfl, ?_⟩) (by assumption) ?_
              rotate_left
              · (intro w hSw; (try (obtain ⟨q0, q1, q2, q3, q4, q5, q6, q7, q8⟩ := hSw)); go_simp; try with_reducible rfl)
              try simp only [List.getElem_toArray, List.getElem_cons_succ, List.getElem_cons_zero, Act.put, List.setIfInBounds_toArray, List.set_cons_zero, List.set_cons_succ]
              refine wpAnyH_take (i := 2) (v := ?_) rfl (by kernel_rfl) (by kernel_rfl) (by kernel_rfl) (fun _ _ _ h => h) (Or.inl ⟨by rfl, ?_⟩) (by assumption) ?_
              rotate_left
              · (intro w hSw; (try (obtain ⟨q0, q1, q2, q3, q4, q5, q6, q7, q8⟩ := hSw)); go_simp; try with_reducible rfl)
              try simp only [List.getElem_toArray, List.getElem_cons_succ, List.getElem_cons_zero, Act.put, List.setIfInBounds_toArray, List.set_cons_zero, List.set_cons_succ]
              refine wpAnyH_take (i := 3) (v := ?_) rfl (by kernel_rfl) (by kernel_rfl) (by kernel_rfl) (fun _ _ _ h => h) (Or.inl ⟨by rfl, ?_⟩) (by assumption) ?_
              rotate_left
              · (intro w hSw; (try (obtain ⟨q0, q1, q2, q3, q4, q5, q6, q7, q8⟩ := hSw)); go_simp; try with_reducible rfl)
              try simp only [List.getElem_toArray, List.getElem_cons_succ, List.getElem_cons_zero, Act.put, List.setIfInBounds_toArray, List.set_cons_zero, List.set_cons_succ]
              have hr6 := HRQ2.out
              have c0 : _ = some (Value.string ⟨#[]⟩) := hr6.cell 0
              have y0 := hr6.frozen 0
              have c1 : _ = some (Value.string ⟨#[]⟩) := hr6.cell 1
              have y1 := hr6.frozen 1
              have c2 : _ = some (Value.int .i64 0) := hr6.cell 2
              have y2 := hr6.frozen 2
              have c3 : _ = some (Value.int .i64 0) := hr6.cell 3
              have y3 := hr6.frozen 3
              have c4 : _ = some (Value.int .i64 0) := hr6.cell 4
              have y4 := hr6.frozen 4
              have c5 : _ = some (Value.int .i64 0) := hr6.cell 5
              have y5 := hr6.frozen 5
              have c6 : _ = some (Value.int .i64 0) := hr6.cell 6
              have y6 := hr6.frozen 6
              have c7 : _ = some (Value.int .i64 0) := hr6.cell 7
              have y7 := hr6.frozen 7
              have c8 : _ = some (Value.string ⟨#[]⟩) := hr6.cell 8
              have y8 := hr6.frozen 8
              refine wpAnyH_ready (rs := [4]) (by kernel_rfl) (by simp) ?_
              refine AllReadyH.cons rfl (fun K hK => ?_) AllReadyH.nil
              rw [if_pos (by rfl)]
              simp only [List.getElem_toArray, List.getElem_cons_succ, List.getElem_cons_zero]
              go_simp
              refine hK.out _ _ (KEEPZ.out _ (same_set1 (same_set1 (same_set1 (same_set1 (same_set1 (same_set1 (same_set1 (same_set1 (same_set1 HSQ2.out (g := w.heap.size) hne 0 (.string (bstr a))) (g := w.heap.size) hne 1 (.string (bstr (unDash b)))) (g := w.heap.size) hne 2 (.int .i64 (numV c))) (g := w.heap.size) hne 3 (.int .i64 (numV d))) (g := w.heap.size) hne 4 (.int .i64 (numV ee))) (g := w.heap.size) hne 5 (.int .i64 (numV f))) (g := w.heap.size) hne 6 (.int .i64 (numV gg))) (g := w.heap.size) hne 7 (.int .i64 (kindOf h))) (g := w.heap.size) hne 8 (.string (bstr (unDash i))))) (fun hHeld => ?_)
              clear hK K c0 y0 c1 y1 c2 y2 c3 y3 c4 y4 c5 y5 c6 y6 c7 y7 c8 y8
              try simp only [List.getElem_toArray, List.getElem_cons_succ, List.getElem_cons_zero, Act.put, List.setIfInBounds_toArray, List.set_cons_zero, List.set_cons_succ]
              refine wpAnyH_take (i := 5) (v := ?_) rfl (by kernel_rfl) (by kernel_rfl) (by kernel_rfl) (fun _ _ _ h => h) (Or.inl ⟨by rfl, ?_⟩) (by assumption) ?_
              rotate_left
              · (intro w hSw; (try (obtain ⟨q0, q1, q2, q3, q4, q5, q6, q7, q8⟩ := hSw)); go_simp; try with_reducible rfl)
              try simp only [List.getElem_toArray, List.getElem_cons_succ, List.getElem_cons_zero, Act.put, List.setIfInBounds_toArray, List.set_cons_zero, List.set_cons_succ]
              refine wpAnyH_done (by kernel_rfl) ?_ _
              have HBK := Lib.hid (((((((((hr6.set_ 0 (.string (bstr a))).set_ 1 (.string (bstr (unDash b)))).set_ 2 (.int .i64 (numV c))).set_ 3 (.int .i64 (numV d))).set_ 4 (.int .i64 (numV ee))).set_ 5 (.int .i64 (numV f))).set_ 6 (.int .i64 (numV gg))).set_ 7 (.int .i64 (kindOf h))).set_ 8 (.string (bstr (unDash i))))
              have HBL := Lib.hid (((((((((HBW2.out.setCell (p := ⟨w.heap.size, 0, none⟩) (Nat.le_refl _) (.string (bstr a))).setCell (p := ⟨w.heap.size, 1, none⟩) (Nat.le_refl _) (.string (bstr (unDash b)))).setCell (p := ⟨w.heap.size, 2, none⟩) (Nat.le_refl _) (.int .i64 (numV c))).setCell (p := ⟨w.heap.size, 3, none⟩) (Nat.le_refl _) (.int .i64 (numV d))).setCell (p := ⟨w.heap.size, 4, none⟩) (Nat.le_refl _) (.int .i64 (numV ee))).setCell (p := ⟨w.heap.size, 5, none⟩) (Nat.le_refl _) (.int .i64 (numV f))).setCell (p := ⟨w.heap.size, 6, none⟩) (Nat.le_refl _) (.int .i64 (numV gg))).setCell (p := ⟨w.heap.size, 7, none⟩) (Nat.le_refl _) (.int .i64 (kindOf h))).setCell (p := ⟨w.heap.size, 8, none⟩) (Nat.le_refl _) (.string (bstr (unDash i))))
              clear hr6 hHeld KEEPZ HSQ2 HRQ2 HBW2
              generalize hwy : (((((((((wq2.setCell ⟨w.heap.size, 0, none⟩ (.string (bstr a))).setCell ⟨w.heap.size, 1, none⟩ (.string (bstr (unDash b)))).setCell ⟨w.heap.size, 2, none⟩ (.int .i64 (numV c))).setCell ⟨w.heap.size, 3, none⟩ (.int .i64 (numV d))).setCell ⟨w.heap.size, 4, none⟩ (.int .i64 (numV ee))).setCell ⟨w.heap.size, 5, none⟩ (.int .i64 (numV f))).setCell ⟨w.heap.size, 6, none⟩ (.int .i64 (numV gg))).setCell ⟨w.heap.size, 7, none⟩ (.int .i64 (kindOf h))).setCell ⟨w.heap.size, 8, none⟩ (.string (bstr (unDash i)))) = wy at *
              clear hwy
              go_wp2_with fail
              refine bodyPost_ret (results_row2 rfl _ _ w.heap.size 28 [.string (bstr a), .string (bstr (unDash b)), .int .i64 (numV c), .int .i64 (numV d), .int .i64 (numV ee), .int .i64 (numV f), .int .i64 (numV gg), .int .i64 (kindOf h), .string (bstr (unDash i))] _ rfl HBK.out Tryz.underlying28 rfl right_info) rfl ?_
              exact RlPost.yes HOK.out HBL.out
          · rw [if_pos (by rfl)]
            simp only [List.getElem_toArray, List.getElem_cons_succ, List.getElem_cons_zero]
            go_simp
            have BA38 := Lib.hid (HGq.out.alloc HGq.out.size (.cells #[.string ⟨#[]⟩, .string ⟨#[]⟩, .int .i64 0, .int .i64 0, .int .i64 0, .int .i64 0, .int .i64 0, .int .i64 0, .string ⟨#[]⟩] 28))
            refine hK.out _ _ (KEEP.out _ BA38.out) (fun hHeld => ?_)
            clear hK K
            try simp only [List.getElem_toArray, List.getElem_cons_succ, List.getElem_cons_zero, Act.put, List.setIfInBounds_toArray, List.set_cons_zero, List.set_cons_succ]
            have HA39 := Lib.hid (Blk.new wq 28 [.string ⟨#[]⟩, .string ⟨#[]⟩, .int .i64 0, .int .i64 0, .int .i64 0, .int .i64 0, .int .i64 0, .int .i64 0, .string ⟨#[]⟩])
            have hrb : wr.heap.size ≤ wq.heap.size := HGq.out.size
            generalize hwa : wq.alloc (.cells #[.string ⟨#[]⟩, .string ⟨#[]⟩, .int .i64 0, .int .i64 0, .int .i64 0, .int .i64 0, .int .i64 0, .int .i64 0, .string ⟨#[]⟩] 28) = wa37 at *
            generalize wq.heap.size = rb40 at *
            clear hwa
            refine wpAnyH_ready (rs := [6]) (by kernel_rfl) (by simp) ?_
            refine AllReadyH.cons rfl (fun K hK => ?_) AllReadyH.nil
            rw [if_pos (by rfl)]
            simp only [List.getElem_toArray, List.getElem_cons_succ, List.getElem_cons_zero]
            go_simp
            go_at_call 31
            refine (undash_any b wa37).mono ?_
            rintro e wu ⟨rfl, hwu⟩
            subst hwu
            show K _ wu
            refine hK.out _ _ (KEEP.out _ BA38.out) (fun hHeld => ?_)
            clear hK K
            try simp only [List.getElem_toArray, List.getElem_cons_succ, List.getElem_cons_zero, Act.put, List.setIfInBounds_toArray, List.set_cons_zero, List.set_cons_succ]
            refine wpAnyH_ready (rs := [22]) (by kernel_rfl) (by simp) ?_
            refine AllReadyH.cons rfl (fun K hK => ?_) AllReadyH.nil
            rw [if_pos (by rfl)]
            simp only [List.getElem_toArray, List.getElem_cons_succ, List.getElem_cons_zero]
            go_simp
            go_at_call 21
            refine (kinds_any wu).mono ?_
            rintro e wk42 ⟨rfl, hwk⟩
            have hbk := (Below.refl wu.heap.size wu).alloc (Nat.le_refl _) (.cells (kindRow.map fun x => Value.string (bstr x)).toArray 9)
            have hkk := Blk.new wu 9 (kindRow.map fun x => Value.string (bstr x))
            rw [← hwk] at hbk hkk
            clear hwk
            have BK43 := Lib.hid (ext_trans BA38.out hbk)
            have HK44 := Lib.hid hkk
            have HA46 := Lib.hid (HA39.out.same (same_below hbk) HA39.out.lt)
            clear hbk hkk
            generalize wu.heap.size = kb45 at *
            show K _ wk42
            refine hK.out _ _ (KEEP.out _ BK43.out) (fun hHeld => ?_)
            clear hK K
            try simp only [List.getElem_toArray, List.getElem_cons_succ, List.getElem_cons_zero, Act.put, List.setIfInBounds_toArray, List.set_cons_zero, List.set_cons_succ]
            refine wpAnyH_ready (rs := [26]) (by kernel_rfl) (by simp) ?_
            refine AllReadyH.cons rfl (fun K hK => ?_) AllReadyH.nil
            rw [if_pos (by rfl)]
            simp only [List.getElem_toArray, List.getElem_cons_succ, List.getElem_cons_zero]
            go_simp
            go_at_call 32
            refine (kindIx_any kb45 h wk42 HK44.out).mono ?_
            rintro e wu ⟨rfl, hwu⟩
            subst hwu
            show K _ wu
            refine hK.out _ _ (KEEP.out _ BK43.out) (fun hHeld => ?_)
            clear hK K
            try simp only [List.getElem_toArray, List.getElem_cons_succ, List.getElem_cons_zero, Act.put, List.setIfInBounds_toArray, List.set_cons_zero, List.set_cons_succ]
            refine wpAnyH_take (i := 27) (v := ?_) rfl (by kernel_rfl) (by kernel_rfl) (by kernel_rfl) (fun _ _ _ h => h) (Or.inl ⟨by rfl, ?_⟩) (by assumption) ?_
            rotate_left
            · (intro w hSw; (try (obtain ⟨q0, q1, q7, q8, r0, r1, r2, r3, r4⟩ := hSw)); go_simp; (try rw [if_neg (by omega)]); (try simp only [HWQ.out]); try with_reducible rfl)
            try simp only [List.getElem_toArray, List.getElem_cons_succ, List.getElem_cons_zero, Act.put, List.setIfInBounds_toArray, List.set_cons_zero, List.set_cons_succ]
            refine wpAnyH_ready (rs := [31]) (by kernel_rfl) (by simp) ?_
            refine AllReadyH.cons rfl (fun K hK => ?_) AllReadyH.nil
            rw [if_pos (by rfl)]
            simp only [List.getElem_toArray, List.getElem_cons_succ, List.getElem_cons_zero]
            go_simp
            go_at_call 31
            refine (undash_any i wu).mono ?_
            rintro e wu ⟨rfl, hwu⟩
            subst hwu
            show K _ wu
            refine hK.out _ _ (KEEP.out _ BK43.out) (fun hHeld => ?_)
            clear hK K
            try simp only [List.getElem_toArray, List.getElem_cons_succ, List.getElem_cons_zero, Act.put, List.setIfInBounds_toArray, List.set_cons_zero, List.set_cons_succ]
            refine wpAnyH_take (i := 32) (v := ?_) rfl (by kernel_rfl) (by kernel_rfl) (by kernel_rfl) (fun _ _ _ h => h) (Or.inl ⟨by rfl, ?_⟩) (by assumption) ?_
            rotate_left
            · (intro w hSw; (try (obtain ⟨q0, q1, q7, q8, r0, r1, r2, r3, r4⟩ := hSw)); go_simp; (try rw [if_neg (by omega)]); (try simp only [HWQ.out]); try with_reducible rfl)
            try simp only [List.getElem_toArray, List.getElem_cons_succ, List.getElem_cons_zero, Act.put, List.setIfInBounds_toArray, List.set_cons_zero, List.set_cons_succ]
            have hr5 := HA46.out
            have c0 : _ = some (Value.string ⟨#[]⟩) := hr5.cell 0
            have y0 := hr5.frozen 0
            have c1 : _ = some (Value.string ⟨#[]⟩) := hr5.cell 1
            have y1 := hr5.frozen 1
            have c2 : _ = some (Value.int .i64 0) := hr5.cell 2
            have y2 := hr5.frozen 2
            have c3 : _ = some (Value.int .i64 0) := hr5.cell 3
            have y3 := hr5.frozen 3
            have c4 : _ = some (Value.int .i64 0) := hr5.cell 4
            have y4 := hr5.frozen 4
            have c5 : _ = some (Value.int .i64 0) := hr5.cell 5
            have y5 := hr5.frozen 5
            have c6 : _ = some (Value.int .i64 0) := hr5.cell 6
            have y6 := hr5.frozen 6
            have c7 : _ = some (Value.int .i64 0) := hr5.cell 7
            have y7 := hr5.frozen 7
            have c8 : _ = some (Value.string ⟨#[]⟩) := hr5.cell 8
            have y8 := hr5.frozen 8
            refine wpAnyH_ready (rs := [34]) (by kernel_rfl) (by simp) ?_
            refine AllReadyH.cons rfl (fun K hK => ?_) AllReadyH.nil
            rw [if_pos (by rfl)]
            simp only [List.getElem_toArray, List.getElem_cons_succ, List.getElem_cons_zero]
            go_simp
            refine hK.out _ _ (KEEP.out _ (((((((((BK43.out.setCell (p := ⟨rb40, 0, none⟩) hrb (.string (bstr a))).setCell (p := ⟨rb40, 1, none⟩) hrb (.string (bstr (unDash b)))).setCell (p := ⟨rb40, 2, none⟩) hrb (.int .i64 (numV c))).setCell (p := ⟨rb40, 3, none⟩) hrb (.int .i64 (numV d))).setCell (p := ⟨rb40, 4, none⟩) hrb (.int .i64 (numV ee))).setCell (p := ⟨rb40, 5, none⟩) hrb (.int .i64 (numV f))).setCell (p := ⟨rb40, 6, none⟩) hrb (.int .i64 (numV gg))).setCell (p := ⟨rb40, 7, none⟩) hrb (.int .i64 (kindOf h))).setCell (p := ⟨rb40, 8, none⟩) hrb (.string (bstr (unDash i))))) (fun hHeld => ?_)
            clear hK K hHeld c0 y0 c1 y1 c2 y2 c3 y3 c4 y4 c5 y5 c6 y6 c7 y7 c8 y8
            try simp only [List.getElem_toArray, List.getElem_cons_succ, List.getElem_cons_zero, Act.put, List.setIfInBounds_toArray, List.set_cons_zero, List.set_cons_succ]
            refine wpAnyH_done (by kernel_rfl) ?_ _
            have HRZ := Lib.hid (((((((((hr5.set_ 0 (.string (bstr a))).set_ 1 (.string (bstr (unDash b)))).set_ 2 (.int .i64 (numV c))).set_ 3 (.int .i64 (numV d))).set_ 4 (.int .i64 (numV ee))).set_ 5 (.int .i64 (numV f))).set_ 6 (.int .i64 (numV gg))).set_ 7 (.int .i64 (kindOf h))).set_ 8 (.string (bstr (unDash i))))
            have HBZ := Lib.hid (((((((((BK43.out.setCell (p := ⟨rb40, 0, none⟩) hrb (.string (bstr a))).setCell (p := ⟨rb40, 1, none⟩) hrb (.string (bstr (unDash b)))).setCell (p := ⟨rb40, 2, none⟩) hrb (.int .i64 (numV c))).setCell (p := ⟨rb40, 3, none⟩) hrb (.int .i64 (numV d))).setCell (p := ⟨rb40, 4, none⟩) hrb (.int .i64 (numV ee))).setCell (p := ⟨rb40, 5, none⟩) hrb (.int .i64 (numV f))).setCell (p := ⟨rb40, 6, none⟩) hrb (.int .i64 (numV gg))).setCell (p := ⟨rb40, 7, none⟩) hrb (.int .i64 (kindOf h))).setCell (p := ⟨rb40, 8, none⟩) hrb (.string (bstr (unDash i))))
            clear hr5
            generalize hwz : (((((((((wu.setCell ⟨rb40, 0, none⟩ (.string (bstr a))).setCell ⟨rb40, 1, none⟩ (.string (bstr (unDash b)))).setCell ⟨rb40, 2, none⟩ (.int .i64 (numV c))).setCell ⟨rb40, 3, none⟩ (.int .i64 (numV d))).setCell ⟨rb40, 4, none⟩ (.int .i64 (numV ee))).setCell ⟨rb40, 5, none⟩ (.int .i64 (numV f))).setCell ⟨rb40, 6, none⟩ (.int .i64 (numV gg))).setCell ⟨rb40, 7, none⟩ (.int .i64 (kindOf h))).setCell ⟨rb40, 8, none⟩ (.string (bstr (unDash i)))) = wz at *
            clear hwz
            have hrz := HRZ.out
            simp only [List.set_cons_zero, List.set_cons_succ] at hrz
            have KEEPZ : Hid (∀ w', Same (fun j => j = rb40) wz w' → (w'.cell? ⟨rb40, 0, none⟩ = some (.string (bstr a)) ∧ w'.cell? ⟨rb40, 1, none⟩ = some (.string (bstr (unDash b))) ∧ w'.cell? ⟨rb40, 2, none⟩ = some (.int .i64 (numV c)) ∧ w'.cell? ⟨rb40, 3, none⟩ = some (.int .i64 (numV d)) ∧ w'.cell? ⟨rb40, 4, none⟩ = some (.int .i64 (numV ee)) ∧ w'.cell? ⟨rb40, 5, none⟩ = some (.int .i64 (numV f)) ∧ w'.cell? ⟨rb40, 6, none⟩ = some (.int .i64 (numV gg)) ∧ w'.cell? ⟨rb40, 7, none⟩ = some (.int .i64 (kindOf h)) ∧ w'.cell? ⟨rb40, 8, none⟩ = some (.string (bstr (unDash i))))) := Lib.hid (fun w' hsm => by
              have hq := hrz.same hsm rfl
              exact ⟨hq.cell 0, hq.cell 1, hq.cell 2, hq.cell 3, hq.cell 4, hq.cell 5, hq.cell 6, hq.cell 7, hq.cell 8⟩)
            have HRQ := Lib.hid (HRR.out.same (same_below HBZ.out) HRR.out.lt)
            have hne : rb40 ≠ w.heap.size := by have := HRR.out.lt; omega
            have HBW := Lib.hid (ext_trans HBR.out HBZ.out)
            clear hrz HRZ HRR HBR HBZ HR1 HW1 HB1 HWR HB KEEP
            go_wp2_with fail
            refine wp_region_held_drew (S := fun w' => w'.cell? ⟨rb40, 0, none⟩ = some (.string (bstr a)) ∧ w'.cell? ⟨rb40, 1, none⟩ = some (.string (bstr (unDash b))) ∧ w'.cell? ⟨rb40, 2, none⟩ = some (.int .i64 (numV c)) ∧ w'.cell? ⟨rb40, 3, none⟩ = some (.int .i64 (numV d)) ∧ w'.cell? ⟨rb40, 4, none⟩ = some (.int .i64 (numV ee)) ∧ w'.cell? ⟨rb40, 5, none⟩ = some (.int .i64 (numV f)) ∧ w'.cell? ⟨rb40, 6, none⟩ = some (.int .i64 (numV gg)) ∧ w'.cell? ⟨rb40, 7, none⟩ = some (.int .i64 (kindOf h)) ∧ w'.cell? ⟨rb40, 8, none⟩ = some (.string (bstr (unDash i)))) (by kernel_rfl) (KEEPZ.out _ (fun j hj => rfl)) (fun hHeld => ?_)
            obtain ⟨wq2, hwq2⟩ : ∃ wq2, wq2 = World.drew wz := ⟨_, rfl⟩
            have HSQ2 : Hid (Same (fun j => j = rb40) wz wq2) := Lib.hid (by rw [hwq2]; exact fun j hj => rfl)
            have HRQ2 : Hid (Blk wq2 w.heap.size 28 [.string ⟨#[]⟩, .string ⟨#[]⟩, .int .i64 0, .int .i64 0, .int .i64 0, .int .i64 0, .int .i64 0, .int .i64 0, .string ⟨#[]⟩]) := Lib.hid (by rw [hwq2]; exact HRQ.out)
            have HBW2 : Hid (Below w.heap.size w wq2) := Lib.hid (by rw [hwq2]; exact Below.drew HBW.out)
            rw [← hwq2] at hHeld ⊢
            clear hwq2 HRQ HBW
            refine wpAnyH_take (i := 0) (v := ?_) rfl (by kernel_rfl) (by kernel_rfl) (by kernel_rfl) (fun _ _ _ h => h) (Or.inl ⟨by rfl, ?_⟩) (by assumption) ?_
            rotate_left
            · (intro w hSw; (try (obtain ⟨q0, q1, q2, q3, q4, q5, q6, q7, q8⟩ := hSw)); go_simp; try with_reducible rfl)
            try simp only [List.getElem_toArray, List.getElem_cons_succ, List.getElem_cons_zero, Act.put, List.setIfInBounds_toArray, List.set_cons_zero, List.set_cons_succ]
            refine wpAnyH_take (i := 1) (v := ?_) rfl (by kernel_rfl) (by kernel_rfl) (by kernel_rfl) (fun _ _ _ h => h) (Or.inl ⟨by rfl, ?_⟩) (by assumption) ?_
            rotate_left
            · (intro w hSw; (try (obtain ⟨q0, q1, q2, q3, q4, q5, q6, q7, q8⟩ := hSw)); go_simp; try with_reducible rfl)
            try simp only [List.getElem_toArray, List.getElem_cons_succ, List.getElem_cons_zero, Act.put, List.setIfInBounds_toArray, List.set_cons_zero, List.set_cons_succ]
            refine wpAnyH_take (i := 2) (v := ?_) rfl (by kernel_rfl) (by kernel_rfl) (by kernel_rfl) (fun _ _ _ h => h) (Or.inl ⟨by rfl, ?_⟩) (by assumption) ?_
            rotate_left
            · (intro w hSw; (try (obtain ⟨q0, q1, q2, q3, q4, q5, q6, q7, q8⟩ := hSw)); go_simp; try with_reducible rfl)
            try simp only [List.getElem_toArray, List.getElem_cons_succ, List.getElem_cons_zero, Act.put, List.setIfInBounds_toArray, List.set_cons_zero, List.set_cons_succ]
            refine wpAnyH_take (i := 3) (v := ?_) rfl (by kernel_rfl) (by kernel_rfl) (by kernel_rfl) (fun _ _ _ h => h) (Or.inl ⟨by rfl, ?_⟩) (by assumption) ?_
            rotate_left
            · (intro w hSw; (try (obtain ⟨q0, q1, q2, q3, q4, q5, q6, q7, q8⟩ := hSw)); go_simp; try with_reducible rfl)
            try simp only [List.getElem_toArray, List.getElem_cons_succ, List.getElem_cons_zero, Act.put, List.setIfInBounds_toArray, List.set_cons_zero, List.set_cons_succ]
            have hr6 := HRQ2.out
            have c0 : _ = some (Value.string ⟨#[]⟩) := hr6.cell 0
            have y0 := hr6.frozen 0
            have c1 : _ = some (Value.string ⟨#[]⟩) := hr6.cell 1
            have y1 := hr6.frozen 1
            have c2 : _ = some (Value.int .i64 0) := hr6.cell 2
            have y2 := hr6.frozen 2
            have c3 : _ = some (Value.int .i64 0) := hr6.cell 3
            have y3 := hr6.frozen 3
            have c4 : _ = some (Value.int .i64 0) := hr6.cell 4
            have y4 := hr6.frozen 4
            have c5 : _ = some (Value.int .i64 0) := hr6.cell 5
            have y5 := hr6.frozen 5
            have c6 : _ = some (Value.int .i64 0) := hr6.cell 6
            have y6 := hr6.frozen 6
            have c7 : _ = some (Value.int .i64 0) := hr6.cell 7
            have y7 := hr6.frozen 7
            have c8 : _ = some (Value.string ⟨#[]⟩) := hr6.cell 8
            have y8 := hr6.frozen 8
            refine wpAnyH_ready (rs := [4]) (by kernel_rfl) (by simp) ?_
            refine AllReadyH.cons rfl (fun K hK => ?_) AllReadyH.nil
            rw [if_pos (by rfl)]
            simp only [List.getElem_toArray, List.getElem_cons_succ, List.getElem_cons_zero]
            go_simp
            refine hK.out _ _ (KEEPZ.out _ (same_set1 (same_set1 (same_set1 (same_set1 (same_set1 (same_set1 (same_set1 (same_set1 (same_set1 HSQ2.out (g := w.heap.size) hne 0 (.string (bstr a))) (g := w.heap.size) hne 1 (.string (bstr (unDash b)))) (g := w.heap.size) hne 2 (.int .i64 (numV c))) (g := w.heap.size) hne 3 (.int .i64 (numV d))) (g := w.heap.size) hne 4 (.int .i64 (numV ee))) (g := w.heap.size) hne 5 (.int .i64 (numV f))) (g := w.heap.size) hne 6 (.int .i64 (numV gg))) (g := w.heap.size) hne 7 (.int .i64 (kindOf h))) (g := w.heap.size) hne 8 (.string (bstr (unDash i))))) (fun hHeld => ?_)
            clear hK K c0 y0 c1 y1 c2 y2 c3 y3 c4 y4 c5 y5 c6 y6 c7 y7 c8 y8
            try simp only [List.getElem_toArray, List.getElem_cons_succ, List.getElem_cons_zero, Act.put, List.setIfInBounds_toArray, List.set_cons_zero, List.set_cons_succ]
            refine wpAnyH_take (i := 5) (v := ?_) rfl (by kernel_rfl) (by kernel_rfl) (by kernel_rfl) (fun _ _ _ h => h) (Or.inl ⟨by rfl, ?_⟩) (by assumption) ?_
            rotate_left
            · (intro w hSw; (try (obtain ⟨q0, q1, q2, q3, q4, q5, q6, q7, q8⟩ := hSw)); go_simp; try with_reducible rfl)
            try simp only [List.getElem_toArray, List.getElem_cons_succ, List.getElem_cons_zero, Act.put, List.setIfInBounds_toArray, List.set_cons_zero, List.set_cons_succ]
            refine wpAnyH_done (by kernel_rfl) ?_ _
            have HBK := Lib.hid (((((((((hr6.set_ 0 (.string (bstr a))).set_ 1 (.string (bstr (unDash b)))).set_ 2 (.int .i64 (numV c))).set_ 3 (.int .i64 (numV d))).set_ 4 (.int .i64 (numV ee))).set_ 5 (.int .i64 (numV f))).set_ 6 (.int .i64 (numV gg))).set_ 7 (.int .i64 (kindOf h))).set_ 8 (.string (bstr (unDash i))))
            have HBL := Lib.hid (((((((((HBW2.out.setCell (p := ⟨w.heap.size, 0, none⟩) (Nat.le_refl _) (.string (bstr a))).setCell (p := ⟨w.heap.size, 1, none⟩) (Nat.le_refl _) (.string (bstr (unDash b)))).setCell (p := ⟨w.heap.size, 2, none⟩) (Nat.le_refl _) (.int .i64 (numV c))).setCell (p := ⟨w.heap.size, 3, none⟩) (Nat.le_refl _) (.int .i64 (numV d))).setCell (p := ⟨w.heap.size, 4, none⟩) (Nat.le_refl _) (.int .i64 (numV ee))).setCell (p := ⟨w.heap.size, 5, none⟩) (Nat.le_refl _) (.int .i64 (numV f))).setCell (p := ⟨w.heap.size, 6, none⟩) (Nat.le_refl _) (.int .i64 (numV gg))).setCell (p := ⟨w.heap.size, 7, none⟩) (Nat.le_refl _) (.int .i64 (kindOf h))).setCell (p := ⟨w.heap.size, 8, none⟩) (Nat.le_refl _) (.string (bstr (unDash i))))
            clear hr6 hHeld KEEPZ HSQ2 HRQ2 HBW2
            generalize hwy : (((((((((wq2.setCell ⟨w.heap.size, 0, none⟩ (.string (bstr a))).setCell ⟨w.heap.size, 1, none⟩ (.string (bstr (unDash b)))).setCell ⟨w.heap.size, 2, none⟩ (.int .i64 (numV c))).setCell ⟨w.heap.size, 3, none⟩ (.int .i64 (numV d))).setCell ⟨w.heap.size, 4, none⟩ (.int .i64 (numV ee))).setCell ⟨w.heap.size, 5, none⟩ (.int .i64 (numV f))).setCell ⟨w.heap.size, 6, none⟩ (.int .i64 (numV gg))).setCell ⟨w.heap.size, 7, none⟩ (.int .i64 (kindOf h))).setCell ⟨w.heap.size, 8, none⟩ (.string (bstr (unDash i)))) = wy at *
            clear hwy
            go_wp2_with fail
            refine bodyPost_ret (results_row2 rfl _ _ w.heap.size 28 [.string (bstr a), .string (bstr (unDash b)), .int .i64 (numV c), .int .i64 (numV d), .int .i64 (numV ee), .int .i64 (numV f), .int .i64 (numV gg), .int .i64 (kindOf h), .string (bstr (unDash i))] _ rfl HBK.out Tryz.underlying28 rfl right_info) rfl ?_
            exact RlPost.yes HOK.out HBL.out
end Go.Proofs.YtgilcllfdgdofaaGreatDoor
