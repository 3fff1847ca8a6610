/-
  readLine of the reference of chapter 10.
-/
import Derived.Test.YtgilcllfdgdofaaGreatDoorRdR
import Derived.Test.YtgilcllfdgdofaaGreatDoorRdN
namespace Go.Proofs.YtgilcllfdgdofaaGreatDoor
open Go.RowKit Go.Shelf
set_option linter.unusedVariables false
set_option linter.unusedSimpArgs false

/-- The cells of a right of which the first k numbers are read. -/
def nCells (a ub : List UInt8) (kd : Int) (ui : List UInt8) (ns : Nat → Int) (k : Nat) : List Value := [.string (bstr a), .string (bstr ub), .int .i64 (if 0 < k then ns 0 else 0), .int .i64 (if 1 < k then ns 1 else 0), .int .i64 (if 2 < k then ns 2 else 0), .int .i64 (if 3 < k then ns 3 else 0), .int .i64 (if 4 < k then ns 4 else 0), .int .i64 kd, .string (bstr ui)]
theorem nCells_set {a ub ui : List UInt8} {kd : Int} (ns : Nat → Int) {k : Nat} (h : k < 5) : (nCells a ub kd ui ns k).set (2 + k) (.int .i64 (ns k)) = nCells a ub kd ui ns (k + 1) := by
  have : k = 0 ∨ k = 1 ∨ k = 2 ∨ k = 3 ∨ k = 4 := by omega
  rcases this with rfl | rfl | rfl | rfl | rfl <;> rfl
/-- Whether the first k numbers of a line are numbers. -/
def allN (ws : List (List UInt8)) : Nat → Bool
  | 0 => true
  | k + 1 => allN ws k && numB (ws.getD (2 + k) [])
theorem RlPost.fin {s a b c d ee f gg h i : List UInt8} {w w' : World} (h1 : numB c = true → numB d = true → numB ee = true → numB f = true → numB gg = true → kindOf h ≠ 0 → lineR s = some (mkR a b c d ee f gg h i))
    (h2 : ¬ ((numB c = true ∧ numB d = true ∧ numB ee = true ∧ numB f = true ∧ numB gg = true) ∧ kindOf h ≠ 0) → lineR s = none) (hb : Below w.heap.size w w') :
    RlPost s w (.returned (.tuple #[.agg #[.string (bstr a), .string (bstr (unDash b)), .int .i64 (numR c), .int .i64 (numR d), .int .i64 (numR ee), .int .i64 (numR f), .int .i64 (numR gg), .int .i64 (kindOf h), .string (bstr (unDash i))], .bool (decide (0 < kindOf h) && allN [a, b, c, d, ee, f, gg, h, i] 5)])) w' := by
  have hk := kind_range h
  refine ⟨⟨a, unDash b, numR c, numR d, numR ee, numR f, numR gg, kindOf h, unDash i⟩, _, rfl, hb, fun ho => ?_, fun ho => ?_⟩
  · have ho : (decide (0 < kindOf h) && (((((true && numB c) && numB d) && numB ee) && numB f) && numB gg)) = true := ho
    simp only [Bool.true_and, Bool.and_eq_true, decide_eq_true_iff] at ho
    obtain ⟨hk0, ⟨⟨⟨⟨m0, m1⟩, m2⟩, m3⟩, m4⟩⟩ := ho
    rw [h1 m0 m1 m2 m3 m4 (by omega)]
    unfold mkR numR
    rw [if_pos m0, if_pos m1, if_pos m2, if_pos m3, if_pos m4]
  · have ho : (decide (0 < kindOf h) && (((((true && numB c) && numB d) && numB ee) && numB f) && numB gg)) = false := ho
    refine h2 (fun hh => ?_)
    obtain ⟨⟨m0, m1, m2, m3, m4⟩, hk0⟩ := hh
    rw [m0, m1, m2, m3, m4, decide_eq_true (show 0 < kindOf h by omega)] at ho
    cases ho
theorem set_same (w : World) {g g' i : Nat} {v : Value} (hne : g ≠ g') : Same (fun j => j = g) w (w.setCell ⟨g', i, none⟩ v) := fun j hj => by
  have hj : j = g := hj
  subst hj
  exact heap_setCell_other _ _ _ _ hne
theorem allN_succ (ws : List (List UInt8)) (k : Nat) : allN ws (k + 1) = (allN ws k && numB (ws.getD (2 + k) [])) := rfl
set_option maxRecDepth 100000 in
set_option maxHeartbeats 16000000 in
theorem readLine_any (s : List UInt8) (w : World) (hG : GInt w) (hs : s.length ≤ 300000) : Calls Tryz.prog 14 #[.string (bstr s)] w (RlPost s w) := by
  have hr0 := Blk.new w 28 [.string ⟨#[]⟩, .string ⟨#[]⟩, .int .i64 0, .int .i64 0, .int .i64 0, .int .i64 0, .int .i64 0, .int .i64 0, .string ⟨#[]⟩]
  have hb0 := (Below.refl w.heap.size w).alloc (Nat.le_refl _) (.cells #[.string ⟨#[]⟩, .string ⟨#[]⟩, .int .i64 0, .int .i64 0, .int .i64 0, .int .i64 0, .int .i64 0, .int .i64 0, .string ⟨#[]⟩] 28)
  have hG0 := hG.ext hb0
  have hsp := splitSp_any s (w.alloc (.cells #[.string ⟨#[]⟩, .string ⟨#[]⟩, .int .i64 0, .int .i64 0, .int .i64 0, .int .i64 0, .int .i64 0, .int .i64 0, .string ⟨#[]⟩] 28)) hG0 (by omega)
  rw [World.size_alloc] at hsp
  have hr1 := hr0.same (same_below ((Below.refl _ _).alloc (Nat.le_refl _) (.cells ((sg s).map fun x => Value.string (bstr x)).toArray 9))) hr0.lt
  have hw1 := Blk.new (w.alloc (.cells #[.string ⟨#[]⟩, .string ⟨#[]⟩, .int .i64 0, .int .i64 0, .int .i64 0, .int .i64 0, .int .i64 0, .int .i64 0, .string ⟨#[]⟩] 28)) 9 ((sg s).map fun x => Value.string (bstr x))
  rw [World.size_alloc] at hw1
  have hb1 : Below w.heap.size w ((w.alloc (.cells #[.string ⟨#[]⟩, .string ⟨#[]⟩, .int .i64 0, .int .i64 0, .int .i64 0, .int .i64 0, .int .i64 0, .int .i64 0, .string ⟨#[]⟩] 28)).alloc (.cells ((sg s).map fun x => Value.string (bstr x)).toArray 9)) := hb0.alloc (by simp) _
  have hz1 : ((w.alloc (.cells #[.string ⟨#[]⟩, .string ⟨#[]⟩, .int .i64 0, .int .i64 0, .int .i64 0, .int .i64 0, .int .i64 0, .int .i64 0, .string ⟨#[]⟩] 28)).alloc (.cells ((sg s).map fun x => Value.string (bstr x)).toArray 9)).heap.size = w.heap.size + 2 := by simp
  have HSP := Lib.hid hsp
  have HR1 := Lib.hid hr1
  have HW1 := Lib.hid hw1
  have HB1 := Lib.hid hb1
  have HSL := Lib.hid (fun x hx => sg_len_le _ s (Nat.le_refl _) x hx)
  have hG2 := hG.ext hb1
  have HG2 := Lib.hid hG2
  clear hr0 hb0 hG0 hG hsp hr1 hw1 hb1 hG2
  generalize (w.alloc (.cells #[.string ⟨#[]⟩, .string ⟨#[]⟩, .int .i64 0, .int .i64 0, .int .i64 0, .int .i64 0, .int .i64 0, .int .i64 0, .string ⟨#[]⟩] 28)).alloc (.cells ((sg s).map fun x => Value.string (bstr x)).toArray 9) = w1 at *
  have HZ1 := Lib.hid hz1
  clear hz1
  by_cases h9 : (sg s).length = 9
  case neg =>
    have h9' : (((sg s).length : Int) != 9) = true := by rw [bne_iff_ne]; omega
    have HN9 := Lib.hid h9
    clear h9
    go_enter Tryz.func14, Tryz.ntmps14
    go_wp2_with fail
    refine HSP.out.mono ?_
    rintro e w2 ⟨rfl, hw2⟩
    subst hw2
    have HL0 : Hid (lineR s = none) := Lib.hid (lineR_no HN9.out)
    have HBK := Lib.hid ((((((((((HR1.out.set_ 0 (.string ⟨#[]⟩)).set_ 1 (.string ⟨#[]⟩)).set_ 2 (.int .i64 0)).set_ 3 (.int .i64 0)).set_ 4 (.int .i64 0)).set_ 5 (.int .i64 0)).set_ 6 (.int .i64 0)).set_ 7 (.int .i64 0)).set_ 8 (.string ⟨#[]⟩)))
    have HBL := Lib.hid ((((((((((HB1.out.setCell (p := ⟨w.heap.size, 0, none⟩) (Nat.le_refl _) (.string ⟨#[]⟩)).setCell (p := ⟨w.heap.size, 1, none⟩) (Nat.le_refl _) (.string ⟨#[]⟩)).setCell (p := ⟨w.heap.size, 2, none⟩) (Nat.le_refl _) (.int .i64 0)).setCell (p := ⟨w.heap.size, 3, none⟩) (Nat.le_refl _) (.int .i64 0)).setCell (p := ⟨w.heap.size, 4, none⟩) (Nat.le_refl _) (.int .i64 0)).setCell (p := ⟨w.heap.size, 5, none⟩) (Nat.le_refl _) (.int .i64 0)).setCell (p := ⟨w.heap.size, 6, none⟩) (Nat.le_refl _) (.int .i64 0)).setCell (p := ⟨w.heap.size, 7, none⟩) (Nat.le_refl _) (.int .i64 0)).setCell (p := ⟨w.heap.size, 8, none⟩) (Nat.le_refl _) (.string ⟨#[]⟩)))
    have k0 := HR1.out.cell 0
    have z0 := HR1.out.frozen 0
    have k1 := HR1.out.cell 1
    have z1 := HR1.out.frozen 1
    have k2 := HR1.out.cell 2
    have z2 := HR1.out.frozen 2
    have k3 := HR1.out.cell 3
    have z3 := HR1.out.frozen 3
    have k4 := HR1.out.cell 4
    have z4 := HR1.out.frozen 4
    have k5 := HR1.out.cell 5
    have z5 := HR1.out.frozen 5
    have k6 := HR1.out.cell 6
    have z6 := HR1.out.frozen 6
    have k7 := HR1.out.cell 7
    have z7 := HR1.out.frozen 7
    have k8 := HR1.out.cell 8
    have z8 := HR1.out.frozen 8
    simp only [List.getElem?_cons_zero, List.getElem?_cons_succ] at k0 k1 k2 k3 k4 k5 k6 k7 k8
    go_wp2_with fail
    refine bodyPost_ret (results_row2 rfl _ _ w.heap.size 28 [.string ⟨#[]⟩, .string ⟨#[]⟩, .int .i64 0, .int .i64 0, .int .i64 0, .int .i64 0, .int .i64 0, .int .i64 0, .string ⟨#[]⟩] _ rfl HBK.out Tryz.underlying28 rfl right_info) rfl ?_
    exact RlPost.no HL0.out HBL.out
  have H9 := Lib.hid h9
  rw [h9] at HSP
  have HNW : Hid (∀ k (hk : k < (sg s).length), wordB (sg s)[k] = false → lineR s = none) := Lib.hid (fun k hk hw => lineR_word h9 hk hw)
  have HNN : Hid (∀ k (h5 : k < 5) (hk : 2 + k < (sg s).length), numB ((sg s)[2 + k]'hk) = false → lineR s = none) := Lib.hid (fun k h5 hk hw => lineR_num h9 h5 hw)
  have HNINE := Lib.hid (nine_of h9)
  clear h9
  go_enter Tryz.func14, Tryz.ntmps14
  go_wp2_with fail
  refine HSP.out.mono ?_
  rintro e w2 ⟨rfl, hw2⟩
  subst hw2
  clear HSP
  obtain ⟨a, b, c, d, ee, f, gg, h, i, es⟩ := HNINE.out
  have HES := Lib.hid es
  have x0 : w2.cell? ⟨w.heap.size + 1, 0, none⟩ = some (.string (bstr a)) := by rw [HW1.out.cell 0, es]; rfl
  have x1 : w2.cell? ⟨w.heap.size + 1, 1, none⟩ = some (.string (bstr b)) := by rw [HW1.out.cell 1, es]; rfl
  have x7 : w2.cell? ⟨w.heap.size + 1, 7, none⟩ = some (.string (bstr h)) := by rw [HW1.out.cell 7, es]; rfl
  have x8 : w2.cell? ⟨w.heap.size + 1, 8, none⟩ = some (.string (bstr i)) := by rw [HW1.out.cell 8, es]; rfl
  have HLa := Lib.hid (HSL.out a (by rw [es]; simp))
  have HLb := Lib.hid (HSL.out b (by rw [es]; simp))
  have HLi := Lib.hid (HSL.out i (by rw [es]; simp))
  clear es
  go_wp2_with fail
  refine (isWord_any a w2 (by have := HLa.out; omega)).mono ?_
  rintro e wv ⟨rfl, hwv⟩
  subst hwv
  cases hwa : wordB a with
  | false =>
    have HL0 : Hid (lineR s = none) := Lib.hid (by rw [lineR_9 HES.out, if_neg (fun ho => by have := lineOk_split.1 ho; rw [hwa] at this; simp at this)])
    have HBK := Lib.hid ((((((((((HR1.out.set_ 0 (.string ⟨#[]⟩)).set_ 1 (.string ⟨#[]⟩)).set_ 2 (.int .i64 0)).set_ 3 (.int .i64 0)).set_ 4 (.int .i64 0)).set_ 5 (.int .i64 0)).set_ 6 (.int .i64 0)).set_ 7 (.int .i64 0)).set_ 8 (.string ⟨#[]⟩)))
    have HBL := Lib.hid ((((((((((HB1.out.setCell (p := ⟨w.heap.size, 0, none⟩) (Nat.le_refl _) (.string ⟨#[]⟩)).setCell (p := ⟨w.heap.size, 1, none⟩) (Nat.le_refl _) (.string ⟨#[]⟩)).setCell (p := ⟨w.heap.size, 2, none⟩) (Nat.le_refl _) (.int .i64 0)).setCell (p := ⟨w.heap.size, 3, none⟩) (Nat.le_refl _) (.int .i64 0)).setCell (p := ⟨w.heap.size, 4, none⟩) (Nat.le_refl _) (.int .i64 0)).setCell (p := ⟨w.heap.size, 5, none⟩) (Nat.le_refl _) (.int .i64 0)).setCell (p := ⟨w.heap.size, 6, none⟩) (Nat.le_refl _) (.int .i64 0)).setCell (p := ⟨w.heap.size, 7, none⟩) (Nat.le_refl _) (.int .i64 0)).setCell (p := ⟨w.heap.size, 8, none⟩) (Nat.le_refl _) (.string ⟨#[]⟩)))
    have k0 := HR1.out.cell 0
    have z0 := HR1.out.frozen 0
    have k1 := HR1.out.cell 1
    have z1 := HR1.out.frozen 1
    have k2 := HR1.out.cell 2
    have z2 := HR1.out.frozen 2
    have k3 := HR1.out.cell 3
    have z3 := HR1.out.frozen 3
    have k4 := HR1.out.cell 4
    have z4 := HR1.out.frozen 4
    have k5 := HR1.out.cell 5
    have z5 := HR1.out.frozen 5
    have k6 := HR1.out.cell 6
    have z6 := HR1.out.frozen 6
    have k7 := HR1.out.cell 7
    have z7 := HR1.out.frozen 7
    have k8 := HR1.out.cell 8
    have z8 := HR1.out.frozen 8
    simp only [List.getElem?_cons_zero, List.getElem?_cons_succ] at k0 k1 k2 k3 k4 k5 k6 k7 k8
    go_wp2_with fail
    refine bodyPost_ret (results_row2 rfl _ _ w.heap.size 28 [.string ⟨#[]⟩, .string ⟨#[]⟩, .int .i64 0, .int .i64 0, .int .i64 0, .int .i64 0, .int .i64 0, .int .i64 0, .string ⟨#[]⟩] _ rfl HBK.out Tryz.underlying28 rfl right_info) rfl ?_
    exact RlPost.no HL0.out HBL.out
  | true =>
  go_wp2_with fail
  refine (isWord_any b w2 (by have := HLb.out; omega)).mono ?_
  rintro e wv ⟨rfl, hwv⟩
  subst hwv
  cases hwb : wordB b with
  | false =>
    have HL0 : Hid (lineR s = none) := Lib.hid (by rw [lineR_9 HES.out, if_neg (fun ho => by have := lineOk_split.1 ho; rw [hwb] at this; simp at this)])
    have HBK := Lib.hid ((((((((((HR1.out.set_ 0 (.string ⟨#[]⟩)).set_ 1 (.string ⟨#[]⟩)).set_ 2 (.int .i64 0)).set_ 3 (.int .i64 0)).set_ 4 (.int .i64 0)).set_ 5 (.int .i64 0)).set_ 6 (.int .i64 0)).set_ 7 (.int .i64 0)).set_ 8 (.string ⟨#[]⟩)))
    have HBL := Lib.hid ((((((((((HB1.out.setCell (p := ⟨w.heap.size, 0, none⟩) (Nat.le_refl _) (.string ⟨#[]⟩)).setCell (p := ⟨w.heap.size, 1, none⟩) (Nat.le_refl _) (.string ⟨#[]⟩)).setCell (p := ⟨w.heap.size, 2, none⟩) (Nat.le_refl _) (.int .i64 0)).setCell (p := ⟨w.heap.size, 3, none⟩) (Nat.le_refl _) (.int .i64 0)).setCell (p := ⟨w.heap.size, 4, none⟩) (Nat.le_refl _) (.int .i64 0)).setCell (p := ⟨w.heap.size, 5, none⟩) (Nat.le_refl _) (.int .i64 0)).setCell (p := ⟨w.heap.size, 6, none⟩) (Nat.le_refl _) (.int .i64 0)).setCell (p := ⟨w.heap.size, 7, none⟩) (Nat.le_refl _) (.int .i64 0)).setCell (p := ⟨w.heap.size, 8, none⟩) (Nat.le_refl _) (.string ⟨#[]⟩)))
    have k0 := HR1.out.cell 0
    have z0 := HR1.out.frozen 0
    have k1 := HR1.out.cell 1
    have z1 := HR1.out.frozen 1
    have k2 := HR1.out.cell 2
    have z2 := HR1.out.frozen 2
    have k3 := HR1.out.cell 3
    have z3 := HR1.out.frozen 3
    have k4 := HR1.out.cell 4
    have z4 := HR1.out.frozen 4
    have k5 := HR1.out.cell 5
    have z5 := HR1.out.frozen 5
    have k6 := HR1.out.cell 6
    have z6 := HR1.out.frozen 6
    have k7 := HR1.out.cell 7
    have z7 := HR1.out.frozen 7
    have k8 := HR1.out.cell 8
    have z8 := HR1.out.frozen 8
    simp only [List.getElem?_cons_zero, List.getElem?_cons_succ] at k0 k1 k2 k3 k4 k5 k6 k7 k8
    go_wp2_with fail
    refine bodyPost_ret (results_row2 rfl _ _ w.heap.size 28 [.string ⟨#[]⟩, .string ⟨#[]⟩, .int .i64 0, .int .i64 0, .int .i64 0, .int .i64 0, .int .i64 0, .int .i64 0, .string ⟨#[]⟩] _ rfl HBK.out Tryz.underlying28 rfl right_info) rfl ?_
    exact RlPost.no HL0.out HBL.out
  | true =>
  go_wp2_with fail
  refine (isWord_any i w2 (by have := HLi.out; omega)).mono ?_
  rintro e wv ⟨rfl, hwv⟩
  subst hwv
  cases hwi : wordB i with
  | false =>
    have HL0 : Hid (lineR s = none) := Lib.hid (by rw [lineR_9 HES.out, if_neg (fun ho => by have := lineOk_split.1 ho; rw [hwi] at this; simp at this)])
    have HBK := Lib.hid ((((((((((HR1.out.set_ 0 (.string ⟨#[]⟩)).set_ 1 (.string ⟨#[]⟩)).set_ 2 (.int .i64 0)).set_ 3 (.int .i64 0)).set_ 4 (.int .i64 0)).set_ 5 (.int .i64 0)).set_ 6 (.int .i64 0)).set_ 7 (.int .i64 0)).set_ 8 (.string ⟨#[]⟩)))
    have HBL := Lib.hid ((((((((((HB1.out.setCell (p := ⟨w.heap.size, 0, none⟩) (Nat.le_refl _) (.string ⟨#[]⟩)).setCell (p := ⟨w.heap.size, 1, none⟩) (Nat.le_refl _) (.string ⟨#[]⟩)).setCell (p := ⟨w.heap.size, 2, none⟩) (Nat.le_refl _) (.int .i64 0)).setCell (p := ⟨w.heap.size, 3, none⟩) (Nat.le_refl _) (.int .i64 0)).setCell (p := ⟨w.heap.size, 4, none⟩) (Nat.le_refl _) (.int .i64 0)).setCell (p := ⟨w.heap.size, 5, none⟩) (Nat.le_refl _) (.int .i64 0)).setCell (p := ⟨w.heap.size, 6, none⟩) (Nat.le_refl _) (.int .i64 0)).setCell (p := ⟨w.heap.size, 7, none⟩) (Nat.le_refl _) (.int .i64 0)).setCell (p := ⟨w.heap.size, 8, none⟩) (Nat.le_refl _) (.string ⟨#[]⟩)))
    have k0 := HR1.out.cell 0
    have z0 := HR1.out.frozen 0
    have k1 := HR1.out.cell 1
    have z1 := HR1.out.frozen 1
    have k2 := HR1.out.cell 2
    have z2 := HR1.out.frozen 2
    have k3 := HR1.out.cell 3
    have z3 := HR1.out.frozen 3
    have k4 := HR1.out.cell 4
    have z4 := HR1.out.frozen 4
    have k5 := HR1.out.cell 5
    have z5 := HR1.out.frozen 5
    have k6 := HR1.out.cell 6
    have z6 := HR1.out.frozen 6
    have k7 := HR1.out.cell 7
    have z7 := HR1.out.frozen 7
    have k8 := HR1.out.cell 8
    have z8 := HR1.out.frozen 8
    simp only [List.getElem?_cons_zero, List.getElem?_cons_succ] at k0 k1 k2 k3 k4 k5 k6 k7 k8
    go_wp2_with fail
    refine bodyPost_ret (results_row2 rfl _ _ w.heap.size 28 [.string ⟨#[]⟩, .string ⟨#[]⟩, .int .i64 0, .int .i64 0, .int .i64 0, .int .i64 0, .int .i64 0, .int .i64 0, .string ⟨#[]⟩] _ rfl HBK.out Tryz.underlying28 rfl right_info) rfl ?_
    exact RlPost.no HL0.out HBL.out
  | true =>
  go_wp2_with fail
  have HOK : Hid (numB c = true → numB d = true → numB ee = true → numB f = true → numB gg = true → kindOf h ≠ 0 → lineR s = some (mkR a b c d ee f gg h i)) := Lib.hid (fun m0 m1 m2 m3 m4 hk => by
    rw [lineR_9 HES.out, if_pos (lineOk_split.2 ⟨⟨hwa, hwb, hwi⟩, ⟨m0, m1, m2, m3, m4⟩, hk⟩)])
  have HNO : Hid (¬ ((numB c = true ∧ numB d = true ∧ numB ee = true ∧ numB f = true ∧ numB gg = true) ∧ kindOf h ≠ 0) → lineR s = none) := Lib.hid (fun hn => by
    rw [lineR_9 HES.out, if_neg (fun ho => hn (lineOk_split.1 ho).2)])
  have KEEP : Hid (∀ w', Below w2.heap.size w2 w' → (w'.cell? ⟨w.heap.size + 1, 0, none⟩ = some (.string (bstr a)) ∧ w'.cell? ⟨w.heap.size + 1, 1, none⟩ = some (.string (bstr b)) ∧ w'.cell? ⟨w.heap.size + 1, 7, none⟩ = some (.string (bstr h)) ∧ w'.cell? ⟨w.heap.size + 1, 8, none⟩ = some (.string (bstr i)))) := Lib.hid (fun w' hb => ⟨(hb.cell (p := ⟨w.heap.size + 1, 0, none⟩) HW1.out.lt).trans x0, (hb.cell (p := ⟨w.heap.size + 1, 1, none⟩) HW1.out.lt).trans x1, (hb.cell (p := ⟨w.heap.size + 1, 7, none⟩) HW1.out.lt).trans x7, (hb.cell (p := ⟨w.heap.size + 1, 8, none⟩) HW1.out.lt).trans x8⟩)
  have HWQ : Hid (IntKind.i64.wrap (kindOf h) = kindOf h) := Lib.hid (by have := kind_range h; rw [IntKind.wrap_i64]; omega)
  have hkr := kind_range h
  clear x0 x1 x7 x8 hwa hwb hwi HLa HLb HLi HNW HNN HNINE
  refine wp_region_held_drew (S := fun w' => w'.cell? ⟨w.heap.size + 1, 0, none⟩ = some (.string (bstr a)) ∧ w'.cell? ⟨w.heap.size + 1, 1, none⟩ = some (.string (bstr b)) ∧ w'.cell? ⟨w.heap.size + 1, 7, none⟩ = some (.string (bstr h)) ∧ w'.cell? ⟨w.heap.size + 1, 8, none⟩ = some (.string (bstr i))) (by kernel_rfl) (KEEP.out _ (Below.drew (Below.refl _ _))) (fun hHeld => ?_)
  obtain ⟨wq, hwq⟩ : ∃ wq, wq = World.drew w2 := ⟨_, rfl⟩
  have HGq : Hid (Below w2.heap.size w2 wq) := Lib.hid (by rw [hwq]; exact Below.drew (Below.refl _ _))
  rw [← hwq] at hHeld ⊢
  clear hwq
  refine wpAnyH_take (i := 0) (v := ?_) rfl (by kernel_rfl) (by kernel_rfl) (by kernel_rfl) (fun _ _ _ h => h) (Or.inl ⟨by rfl, ?_⟩) (by assumption) ?_
  rotate_left
  · (intro w hSw; (try (obtain ⟨q0, q1, q7, q8⟩ := hSw)); go_simp; (try rw [if_neg (by omega)]); (try simp only [HWQ.out]); try with_reducible rfl)
  try simp only [List.getElem_toArray, List.getElem_cons_succ, List.getElem_cons_zero, Act.put, List.setIfInBounds_toArray, List.set_cons_zero, List.set_cons_succ]
  refine wpAnyH_take (i := 1) (v := ?_) rfl (by kernel_rfl) (by kernel_rfl) (by kernel_rfl) (fun _ _ _ h => h) (Or.inl ⟨by rfl, ?_⟩) (by assumption) ?_
  rotate_left
  · (intro w hSw; (try (obtain ⟨q0, q1, q7, q8⟩ := hSw)); go_simp; (try rw [if_neg (by omega)]); (try simp only [HWQ.out]); try with_reducible rfl)
  try simp only [List.getElem_toArray, List.getElem_cons_succ, List.getElem_cons_zero, Act.put, List.setIfInBounds_toArray, List.set_cons_zero, List.set_cons_succ]
  refine wpAnyH_take (i := 2) (v := ?_) rfl (by kernel_rfl) (by kernel_rfl) (by kernel_rfl) (fun _ _ _ h => h) (Or.inl ⟨by rfl, ?_⟩) (by assumption) ?_
  rotate_left
  · (intro w hSw; (try (obtain ⟨q0, q1, q7, q8⟩ := hSw)); go_simp; (try rw [if_neg (by omega)]); (try simp only [HWQ.out]); try with_reducible rfl)
  try simp only [List.getElem_toArray, List.getElem_cons_succ, List.getElem_cons_zero, Act.put, List.setIfInBounds_toArray, List.set_cons_zero, List.set_cons_succ]
  refine wpAnyH_take (i := 3) (v := ?_) rfl (by kernel_rfl) (by kernel_rfl) (by kernel_rfl) (fun _ _ _ h => h) (Or.inl ⟨by rfl, ?_⟩) (by assumption) ?_
  rotate_left
  · (intro w hSw; (try (obtain ⟨q0, q1, q7, q8⟩ := hSw)); go_simp; (try rw [if_neg (by omega)]); (try simp only [HWQ.out]); try with_reducible rfl)
  try simp only [List.getElem_toArray, List.getElem_cons_succ, List.getElem_cons_zero, Act.put, List.setIfInBounds_toArray, List.set_cons_zero, List.set_cons_succ]
  refine wpAnyH_take (i := 4) (v := ?_) rfl (by kernel_rfl) (by kernel_rfl) (by kernel_rfl) (fun _ _ _ h => h) (Or.inl ⟨by rfl, ?_⟩) (by assumption) ?_
  rotate_left
  · (intro w hSw; (try (obtain ⟨q0, q1, q7, q8⟩ := hSw)); go_simp; (try rw [if_neg (by omega)]); (try simp only [HWQ.out]); try with_reducible rfl)
  try simp only [List.getElem_toArray, List.getElem_cons_succ, List.getElem_cons_zero, Act.put, List.setIfInBounds_toArray, List.set_cons_zero, List.set_cons_succ]
  refine wpAnyH_take (i := 5) (v := ?_) rfl (by kernel_rfl) (by kernel_rfl) (by kernel_rfl) (fun _ _ _ h => h) (Or.inl ⟨by rfl, ?_⟩) (by assumption) ?_
  rotate_left
  · (intro w hSw; (try (obtain ⟨q0, q1, q7, q8⟩ := hSw)); go_simp; (try rw [if_neg (by omega)]); (try simp only [HWQ.out]); try with_reducible rfl)
  try simp only [List.getElem_toArray, List.getElem_cons_succ, List.getElem_cons_zero, Act.put, List.setIfInBounds_toArray, List.set_cons_zero, List.set_cons_succ]
  refine wpAnyH_take (i := 8) (v := ?_) rfl (by kernel_rfl) (by kernel_rfl) (by kernel_rfl) (fun _ _ _ h => h) (Or.inl ⟨by rfl, ?_⟩) (by assumption) ?_
  rotate_left
  · (intro w hSw; (try (obtain ⟨q0, q1, q7, q8⟩ := hSw)); go_simp; (try rw [if_neg (by omega)]); (try simp only [HWQ.out]); try with_reducible rfl)
  try simp only [List.getElem_toArray, List.getElem_cons_succ, List.getElem_cons_zero, Act.put, List.setIfInBounds_toArray, List.set_cons_zero, List.set_cons_succ]
  refine wpAnyH_take (i := 9) (v := ?_) rfl (by kernel_rfl) (by kernel_rfl) (by kernel_rfl) (fun _ _ _ h => h) (Or.inl ⟨by rfl, ?_⟩) (by assumption) ?_
  rotate_left
  · (intro w hSw; (try (obtain ⟨q0, q1, q7, q8⟩ := hSw)); go_simp; (try rw [if_neg (by omega)]); (try simp only [HWQ.out]); try with_reducible rfl)
  try simp only [List.getElem_toArray, List.getElem_cons_succ, List.getElem_cons_zero, Act.put, List.setIfInBounds_toArray, List.set_cons_zero, List.set_cons_succ]
  refine wpAnyH_take (i := 10) (v := ?_) rfl (by kernel_rfl) (by kernel_rfl) (by kernel_rfl) (fun _ _ _ h => h) (Or.inl ⟨by rfl, ?_⟩) (by assumption) ?_
  rotate_left
  · (intro w hSw; (try (obtain ⟨q0, q1, q7, q8⟩ := hSw)); go_simp; (try rw [if_neg (by omega)]); (try simp only [HWQ.out]); try with_reducible rfl)
  try simp only [List.getElem_toArray, List.getElem_cons_succ, List.getElem_cons_zero, Act.put, List.setIfInBounds_toArray, List.set_cons_zero, List.set_cons_succ]
  refine wpAnyH_take (i := 13) (v := ?_) rfl (by kernel_rfl) (by kernel_rfl) (by kernel_rfl) (fun _ _ _ h => h) (Or.inl ⟨by rfl, ?_⟩) (by assumption) ?_
  rotate_left
  · (intro w hSw; (try (obtain ⟨q0, q1, q7, q8⟩ := hSw)); go_simp; (try rw [if_neg (by omega)]); (try simp only [HWQ.out]); try with_reducible rfl)
  try simp only [List.getElem_toArray, List.getElem_cons_succ, List.getElem_cons_zero, Act.put, List.setIfInBounds_toArray, List.set_cons_zero, List.set_cons_succ]
  refine wpAnyH_take (i := 14) (v := ?_) rfl (by kernel_rfl) (by kernel_rfl) (by kernel_rfl) (fun _ _ _ h => h) (Or.inl ⟨by rfl, ?_⟩) (by assumption) ?_
  rotate_left
  · (intro w hSw; (try (obtain ⟨q0, q1, q7, q8⟩ := hSw)); go_simp; (try rw [if_neg (by omega)]); (try simp only [HWQ.out]); try with_reducible rfl)
  try simp only [List.getElem_toArray, List.getElem_cons_succ, List.getElem_cons_zero, Act.put, List.setIfInBounds_toArray, List.set_cons_zero, List.set_cons_succ]
  refine wpAnyH_take (i := 15) (v := ?_) rfl (by kernel_rfl) (by kernel_rfl) (by kernel_rfl) (fun _ _ _ h => h) (Or.inl ⟨by rfl, ?_⟩) (by assumption) ?_
  rotate_left
  · (intro w hSw; (try (obtain ⟨q0, q1, q7, q8⟩ := hSw)); go_simp; (try rw [if_neg (by omega)]); (try simp only [HWQ.out]); try with_reducible rfl)
  try simp only [List.getElem_toArray, List.getElem_cons_succ, List.getElem_cons_zero, Act.put, List.setIfInBounds_toArray, List.set_cons_zero, List.set_cons_succ]
  refine wpAnyH_ready (rs := [6, 18]) (by kernel_rfl) (by simp) ?_
  refine AllReadyH.cons rfl (fun K hK => ?_) (AllReadyH.cons rfl (fun K hK => ?_) AllReadyH.nil)
  · rw [if_pos (by rfl)]
    simp only [List.getElem_toArray, List.getElem_cons_succ, List.getElem_cons_zero]
    go_simp
    go_at_call 36
    refine (bare_any b wq).mono ?_
    rintro e wu ⟨rfl, hwu⟩
    subst hwu
    show K _ wu
    refine hK.out _ _ (KEEP.out _ HGq.out) (fun hHeld => ?_)
    clear hK K
    try simp only [List.getElem_toArray, List.getElem_cons_succ, List.getElem_cons_zero, Act.put, List.setIfInBounds_toArray, List.set_cons_zero, List.set_cons_succ]
    refine wpAnyH_ready (rs := [7, 18]) (by kernel_rfl) (by simp) ?_
    refine AllReadyH.cons rfl (fun K hK => ?_) (AllReadyH.cons rfl (fun K hK => ?_) AllReadyH.nil)
    · rw [if_pos (by rfl)]
      simp only [List.getElem_toArray, List.getElem_cons_succ, List.getElem_cons_zero]
      go_simp
      go_at_call 25
      refine (kindSplit_any wu (HG2.out.ext HGq.out)).mono ?_
      rintro e wk49 ⟨rfl, hwk⟩
      have hbk := (Below.refl wu.heap.size wu).alloc (Nat.le_refl _) (.cells (kindRow.map fun x => Value.string (bstr x)).toArray 9)
      have hkk := Blk.new wu 9 (kindRow.map fun x => Value.string (bstr x))
      rw [← hwk] at hbk hkk
      clear hwk
      have BK50 := Lib.hid (ext_trans HGq.out hbk)
      have HK51 := Lib.hid hkk
      clear hbk hkk
      generalize wu.heap.size = kb52 at *
      show K _ wk49
      refine hK.out _ _ (KEEP.out _ BK50.out) (fun hHeld => ?_)
      clear hK K
      try simp only [List.getElem_toArray, List.getElem_cons_succ, List.getElem_cons_zero, Act.put, List.setIfInBounds_toArray, List.set_cons_zero, List.set_cons_succ]
      refine wpAnyH_ready (rs := [11, 18]) (by kernel_rfl) (by simp) ?_
      refine AllReadyH.cons rfl (fun K hK => ?_) (AllReadyH.cons rfl (fun K hK => ?_) AllReadyH.nil)
      · rw [if_pos (by rfl)]
        simp only [List.getElem_toArray, List.getElem_cons_succ, List.getElem_cons_zero]
        go_simp
        go_at_call 32
        refine (kindIx_any kb52 h wk49 HK51.out).mono ?_
        rintro e wu ⟨rfl, hwu⟩
        subst hwu
        show K _ wu
        refine hK.out _ _ (KEEP.out _ BK50.out) (fun hHeld => ?_)
        clear hK K
        try simp only [List.getElem_toArray, List.getElem_cons_succ, List.getElem_cons_zero, Act.put, List.setIfInBounds_toArray, List.set_cons_zero, List.set_cons_succ]
        refine wpAnyH_take (i := 12) (v := ?_) rfl (by kernel_rfl) (by kernel_rfl) (by kernel_rfl) (fun _ _ _ h => h) (Or.inl ⟨by rfl, ?_⟩) (by assumption) ?_
        rotate_left
        · (intro w hSw; (try (obtain ⟨q0, q1, q7, q8⟩ := hSw)); go_simp; (try rw [if_neg (by omega)]); (try simp only [HWQ.out]); try with_reducible rfl)
        try simp only [List.getElem_toArray, List.getElem_cons_succ, List.getElem_cons_zero, Act.put, List.setIfInBounds_toArray, List.set_cons_zero, List.set_cons_succ]
        refine wpAnyH_ready (rs := [16, 18]) (by kernel_rfl) (by simp) ?_
        refine AllReadyH.cons rfl (fun K hK => ?_) (AllReadyH.cons rfl (fun K hK => ?_) AllReadyH.nil)
        · rw [if_pos (by rfl)]
          simp only [List.getElem_toArray, List.getElem_cons_succ, List.getElem_cons_zero]
          go_simp
          go_at_call 36
          refine (bare_any i wu).mono ?_
          rintro e wu ⟨rfl, hwu⟩
          subst hwu
          show K _ wu
          refine hK.out _ _ (KEEP.out _ BK50.out) (fun hHeld => ?_)
          clear hK K
          try simp only [List.getElem_toArray, List.getElem_cons_succ, List.getElem_cons_zero, Act.put, List.setIfInBounds_toArray, List.set_cons_zero, List.set_cons_succ]
          refine wpAnyH_take (i := 17) (v := ?_) rfl (by kernel_rfl) (by kernel_rfl) (by kernel_rfl) (fun _ _ _ h => h) (Or.inl ⟨by rfl, ?_⟩) (by assumption) ?_
          rotate_left
          · (intro w hSw; (try (obtain ⟨q0, q1, q7, q8⟩ := hSw)); go_simp; (try rw [if_neg (by omega)]); (try simp only [HWQ.out]); try with_reducible rfl)
          try simp only [List.getElem_toArray, List.getElem_cons_succ, List.getElem_cons_zero, Act.put, List.setIfInBounds_toArray, List.set_cons_zero, List.set_cons_succ]
          refine wpAnyH_ready (rs := [18]) (by kernel_rfl) (by simp) ?_
          refine AllReadyH.cons rfl (fun K hK => ?_) AllReadyH.nil
          rw [if_pos (by rfl)]
          simp only [List.getElem_toArray, List.getElem_cons_succ, List.getElem_cons_zero]
          go_simp
          have BA54 := Lib.hid (BK50.out.alloc BK50.out.size (.cells #[.string ⟨#[]⟩, .string ⟨#[]⟩, .int .i64 0, .int .i64 0, .int .i64 0, .int .i64 0, .int .i64 0, .int .i64 0, .string ⟨#[]⟩] 28))
          refine hK.out _ _ (KEEP.out _ BA54.out) (fun hHeld => ?_)
          clear hK K
          try simp only [List.getElem_toArray, List.getElem_cons_succ, List.getElem_cons_zero, Act.put, List.setIfInBounds_toArray, List.set_cons_zero, List.set_cons_succ]
          have HA55 := Lib.hid (Blk.new wu 28 [.string ⟨#[]⟩, .string ⟨#[]⟩, .int .i64 0, .int .i64 0, .int .i64 0, .int .i64 0, .int .i64 0, .int .i64 0, .string ⟨#[]⟩])
          have hrb : w2.heap.size ≤ wu.heap.size := BK50.out.size
          have HK57 := Lib.hid (HK51.out.same (same_below ((Below.refl wu.heap.size wu).alloc (Nat.le_refl _) (.cells #[.string ⟨#[]⟩, .string ⟨#[]⟩, .int .i64 0, .int .i64 0, .int .i64 0, .int .i64 0, .int .i64 0, .int .i64 0, .string ⟨#[]⟩] 28))) HK51.out.lt)
          generalize hwa : wu.alloc (.cells #[.string ⟨#[]⟩, .string ⟨#[]⟩, .int .i64 0, .int .i64 0, .int .i64 0, .int .i64 0, .int .i64 0, .int .i64 0, .string ⟨#[]⟩] 28) = wa53 at *
          generalize wu.heap.size = rb56 at *
          clear hwa
          have hr5 := HA55.out
          have c0 : _ = some (Value.string ⟨#[]⟩) := hr5.cell 0
          have y0 := hr5.frozen 0
          have c1 : _ = some (Value.string ⟨#[]⟩) := hr5.cell 1
          have y1 := hr5.frozen 1
          have c2 : _ = some (Value.int .i64 0) := hr5.cell 2
          have y2 := hr5.frozen 2
          have c3 : _ = some (Value.int .i64 0) := hr5.cell 3
          have y3 := hr5.frozen 3
          have c4 : _ = some (Value.int .i64 0) := hr5.cell 4
          have y4 := hr5.frozen 4
          have c5 : _ = some (Value.int .i64 0) := hr5.cell 5
          have y5 := hr5.frozen 5
          have c6 : _ = some (Value.int .i64 0) := hr5.cell 6
          have y6 := hr5.frozen 6
          have c7 : _ = some (Value.int .i64 0) := hr5.cell 7
          have y7 := hr5.frozen 7
          have c8 : _ = some (Value.string ⟨#[]⟩) := hr5.cell 8
          have y8 := hr5.frozen 8
          refine wpAnyH_ready (rs := [19]) (by kernel_rfl) (by simp) ?_
          refine AllReadyH.cons rfl (fun K hK => ?_) AllReadyH.nil
          rw [if_pos (by rfl)]
          simp only [List.getElem_toArray, List.getElem_cons_succ, List.getElem_cons_zero]
          go_simp
          refine hK.out _ _ (KEEP.out _ (((((((((BA54.out.setCell (p := ⟨rb56, 0, none⟩) hrb (.string (bstr a))).setCell (p := ⟨rb56, 1, none⟩) hrb (.string (bstr (unDash b)))).setCell (p := ⟨rb56, 2, none⟩) hrb (.int .i64 0)).setCell (p := ⟨rb56, 3, none⟩) hrb (.int .i64 0)).setCell (p := ⟨rb56, 4, none⟩) hrb (.int .i64 0)).setCell (p := ⟨rb56, 5, none⟩) hrb (.int .i64 0)).setCell (p := ⟨rb56, 6, none⟩) hrb (.int .i64 0)).setCell (p := ⟨rb56, 7, none⟩) hrb (.int .i64 (kindOf h))).setCell (p := ⟨rb56, 8, none⟩) hrb (.string (bstr (unDash i))))) (fun hHeld => ?_)
          clear hK K hHeld c0 y0 c1 y1 c2 y2 c3 y3 c4 y4 c5 y5 c6 y6 c7 y7 c8 y8
          try simp only [List.getElem_toArray, List.getElem_cons_succ, List.getElem_cons_zero, Act.put, List.setIfInBounds_toArray, List.set_cons_zero, List.set_cons_succ]
          refine wpAnyH_done (by kernel_rfl) ?_ _
          have HRZ := Lib.hid (((((((((hr5.set_ 0 (.string (bstr a))).set_ 1 (.string (bstr (unDash b)))).set_ 2 (.int .i64 0)).set_ 3 (.int .i64 0)).set_ 4 (.int .i64 0)).set_ 5 (.int .i64 0)).set_ 6 (.int .i64 0)).set_ 7 (.int .i64 (kindOf h))).set_ 8 (.string (bstr (unDash i))))
          have HBZ := Lib.hid (((((((((BA54.out.setCell (p := ⟨rb56, 0, none⟩) hrb (.string (bstr a))).setCell (p := ⟨rb56, 1, none⟩) hrb (.string (bstr (unDash b)))).setCell (p := ⟨rb56, 2, none⟩) hrb (.int .i64 0)).setCell (p := ⟨rb56, 3, none⟩) hrb (.int .i64 0)).setCell (p := ⟨rb56, 4, none⟩) hrb (.int .i64 0)).setCell (p := ⟨rb56, 5, none⟩) hrb (.int .i64 0)).setCell (p := ⟨rb56, 6, none⟩) hrb (.int .i64 0)).setCell (p := ⟨rb56, 7, none⟩) hrb (.int .i64 (kindOf h))).setCell (p := ⟨rb56, 8, none⟩) hrb (.string (bstr (unDash i))))
          clear hr5
          generalize hwz : (((((((((wa53.setCell ⟨rb56, 0, none⟩ (.string (bstr a))).setCell ⟨rb56, 1, none⟩ (.string (bstr (unDash b)))).setCell ⟨rb56, 2, none⟩ (.int .i64 0)).setCell ⟨rb56, 3, none⟩ (.int .i64 0)).setCell ⟨rb56, 4, none⟩ (.int .i64 0)).setCell ⟨rb56, 5, none⟩ (.int .i64 0)).setCell ⟨rb56, 6, none⟩ (.int .i64 0)).setCell ⟨rb56, 7, none⟩ (.int .i64 (kindOf h))).setCell ⟨rb56, 8, none⟩ (.string (bstr (unDash i)))) = wz at *
          clear hwz
          have hrz := HRZ.out
          simp only [List.set_cons_zero, List.set_cons_succ] at hrz
          have HRQ := Lib.hid (HR1.out.same (same_below HBZ.out) HR1.out.lt)
          have HWZ := Lib.hid (HW1.out.same (same_below HBZ.out) HW1.out.lt)
          have HBW0 := Lib.hid (ext_trans HB1.out HBZ.out)
          have hne : w.heap.size ≠ rb56 := by have := HR1.out.lt; omega
          have hne1 : w.heap.size + 1 ≠ rb56 := by have := HW1.out.lt; omega
          have hrbw : w.heap.size ≤ rb56 := by have := HB1.out.size; omega
          have f7 : wz.cell? ⟨rb56, 7, none⟩ = some (.int .i64 (kindOf h)) := hrz.cell 7
          have hrlt := hrz.lt
          have hal := (Below.refl wz.heap.size wz).alloc (Nat.le_refl _) (.cells #[.pointer (some ⟨rb56, 2, none⟩), .pointer (some ⟨rb56, 3, none⟩), .pointer (some ⟨rb56, 4, none⟩), .pointer (some ⟨rb56, 5, none⟩), .pointer (some ⟨rb56, 6, none⟩)] 68)
          have hrl := hrz.same (same_below hal) hrz.lt
          have Hrb56 := Lib.hid hrl
          have HRL := Lib.hid (HRQ.out.same (same_below hal) HRQ.out.lt)
          have HWL := Lib.hid (HWZ.out.same (same_below hal) HWZ.out.lt)
          have HBL := Lib.hid (ext_trans HBW0.out hal)
          have HPB := Lib.hid (Blk.new wz 68 [.pointer (some ⟨rb56, 2, none⟩), .pointer (some ⟨rb56, 3, none⟩), .pointer (some ⟨rb56, 4, none⟩), .pointer (some ⟨rb56, 5, none⟩), .pointer (some ⟨rb56, 6, none⟩)])
          have hne2 : wz.heap.size ≠ rb56 := by omega
          clear hrz HRZ HBZ HR1 HW1 HB1 hal hrl HRQ HWZ HBW0 KEEP
          go_wp2_with fail
          clear f7 hrlt
          generalize wz.alloc (.cells #[.pointer (some ⟨rb56, 2, none⟩), .pointer (some ⟨rb56, 3, none⟩), .pointer (some ⟨rb56, 4, none⟩), .pointer (some ⟨rb56, 5, none⟩), .pointer (some ⟨rb56, 6, none⟩)] 68) = wl at *
          generalize wz.heap.size = pb at *
          go_loopw [6, 66] (fun v6 vi wr => ∃ k : Nat, k ≤ 5 ∧ v6 = .bool (decide (0 < kindOf h) && allN (sg s) k) ∧ vi = .int .i64 k ∧ Hid (Blk wr w.heap.size 28 [.string ⟨#[]⟩, .string ⟨#[]⟩, .int .i64 0, .int .i64 0, .int .i64 0, .int .i64 0, .int .i64 0, .int .i64 0, .string ⟨#[]⟩]) ∧ Hid (Blk wr (w.heap.size + 1) 9 ((sg s).map fun x => Value.string (bstr x))) ∧ Hid (Blk wr rb56 28 (nCells a (unDash b) (kindOf h) (unDash i) (fun j => numR ((sg s).getD (2 + j) [])) k)) ∧ Hid (Blk wr pb 68 [.pointer (some ⟨rb56, 2, none⟩), .pointer (some ⟨rb56, 3, none⟩), .pointer (some ⟨rb56, 4, none⟩), .pointer (some ⟨rb56, 5, none⟩), .pointer (some ⟨rb56, 6, none⟩)]) ∧ Hid (Below w.heap.size w wr)) (fun _ vi _ => 5 - (intOf vi).toNat)
          case atStart => exact ⟨0, by omega, by rw [show allN (sg s) 0 = true from rfl, Bool.and_true], rfl, HRL, HWL, Hrb56, HPB, HBL⟩
          case round =>
            obtain ⟨k, hk, rfl, rfl, HRK, HWK, HBK, HBP, HBW⟩ := hrel
            by_cases hlt : k < 5
            · have hlw : 2 + k < (sg s).length := by have := H9.out; omega
              have c0 : wr.cell? ⟨w.heap.size + 1, 2 + k, none⟩ = some (.string (bstr (sg s)[2 + k])) := by rw [HWK.out.cell (2 + k), List.getElem?_map, List.getElem?_eq_getElem hlw]; rfl
              have p0 : wr.cell? ⟨pb, k, none⟩ = some (.pointer (some ⟨rb56, 2 + k, none⟩)) := by
                rw [HBP.out.cell k]
                have : k = 0 ∨ k = 1 ∨ k = 2 ∨ k = 3 ∨ k = 4 := by omega
                rcases this with rfl | rfl | rfl | rfl | rfl <;> rfl
              have HLX := Lib.hid (HSL.out (sg s)[2 + k] (List.getElem_mem _))
              have HGD : (sg s).getD (2 + k) [] = (sg s)[2 + k] := by rw [List.getD_eq_getElem?_getD, List.getElem?_eq_getElem hlw]; rfl
              have HNS : Hid (∀ (g : Nat) (wq : World), Blk wq g 28 (nCells a (unDash b) (kindOf h) (unDash i) (fun j => numR ((sg s).getD (2 + j) [])) k) → Blk (wq.setCell ⟨g, 2 + k, none⟩ (.int .i64 (numR (sg s)[2 + k]))) g 28 (nCells a (unDash b) (kindOf h) (unDash i) (fun j => numR ((sg s).getD (2 + j) [])) (k + 1))) := Lib.hid (fun g wq hb => by
                have h1 := hb.set_ (2 + k) (.int .i64 (numR ((sg s).getD (2 + k) [])))
                rw [nCells_set (fun j => numR ((sg s).getD (2 + j) [])) hlt, HGD] at h1
                exact h1)
              have HNX : Hid (allN (sg s) (k + 1) = (allN (sg s) k && numB (sg s)[2 + k])) := Lib.hid (by rw [allN_succ, HGD])
              have HOLD : Hid (∃ v, (nCells a (unDash b) (kindOf h) (unDash i) (fun j => numR ((sg s).getD (2 + j) [])) k)[2 + k]? = some v) := Lib.hid (by
                have : k = 0 ∨ k = 1 ∨ k = 2 ∨ k = 3 ∨ k = 4 := by omega
                rcases this with rfl | rfl | rfl | rfl | rfl <;> exact ⟨_, rfl⟩)
              clear HGD
              generalize (sg s)[2 + k] = x at *
              have hk5 : (k : Int) < 5 := by omega
              have hk2 : (2 + (k : Int)).toNat = 2 + k := by omega
              have hk9 : 2 + (k : Int) < 9 := by omega
              go_wp2_with fail
              refine (hnumber_any x wr (by have := HLX.out; omega)).mono ?_
              rintro e w4 ⟨rfl, hb4⟩
              have HRK4 := Lib.hid (HRK.out.same (same_below hb4) HRK.out.lt)
              have HWK4 := Lib.hid (HWK.out.same (same_below hb4) HWK.out.lt)
              have HBK4 := Lib.hid (HBK.out.same (same_below hb4) HBK.out.lt)
              have HBP4 := Lib.hid (HBP.out.same (same_below hb4) HBP.out.lt)
              have HBW4 := Lib.hid (ext_trans HBW.out hb4)
              obtain ⟨vold, hvold⟩ := HOLD.out
              have d0 : w4.cell? ⟨rb56, 2 + k, none⟩ = some vold := (HBK4.out.cell (2 + k)).trans hvold
              have y0 := HBK4.out.frozen (2 + k)
              have HRK5 := Lib.hid (HRK4.out.same (set_same w4 (i := 2 + k) (v := .int .i64 (numR x)) (show w.heap.size ≠ rb56 from hne)) rfl)
              have HWK5 := Lib.hid (HWK4.out.same (set_same w4 (i := 2 + k) (v := .int .i64 (numR x)) (show w.heap.size + 1 ≠ rb56 from hne1)) rfl)
              have HBP5 := Lib.hid (HBP4.out.same (set_same w4 (i := 2 + k) (v := .int .i64 (numR x)) (show pb ≠ rb56 from hne2)) rfl)
              have HBK5 := Lib.hid (HNS.out rb56 w4 HBK4.out)
              have HBW5 := Lib.hid (HBW4.out.setCell (p := ⟨rb56, 2 + k, none⟩) hrbw (.int .i64 (numR x)))
              clear hb4 HRK HWK HBK HBP HBW HRK4 HWK4 HBK4 HBP4 HBW4 HNS HOLD c0 p0 hvold
              have HQE : Hid ((decide (0 < kindOf h) && allN (sg s) (k + 1)) = ((decide (0 < kindOf h) && allN (sg s) k) && numB x)) := Lib.hid (by rw [HNX.out, Bool.and_assoc])
              generalize (decide (0 < kindOf h) && allN (sg s) k) = q at *
              generalize numB x = nb at *
              cases q with
              | true =>
                have HQ2 : Hid ((decide (0 < kindOf h) && allN (sg s) (k + 1)) = nb) := Lib.hid (by rw [HQE.out, Bool.true_and])
                clear HQE HNX
                go_wp2_with fail
                go_roundw
                case rel => first | exact ⟨k + 1, by omega, by rw [HQ2.out], by go_num, HRK5, HWK5, HBK5, HBP5, HBW5⟩ | (repeat (apply Exists.intro); (refine And.intro ?_ ?_; rotate_left; (repeat' (first | exact rfl | apply And.intro)); exact ⟨k + 1, by omega, by rw [HQ2.out], by go_num, HRK5, HWK5, HBK5, HBP5, HBW5⟩))
                case measure => simp [intOf]; omega
              | false =>
                have HQ2 : Hid ((decide (0 < kindOf h) && allN (sg s) (k + 1)) = false) := Lib.hid (by rw [HQE.out, Bool.false_and])
                clear HQE HNX
                go_wp2_with fail
                go_roundw
                case rel => first | exact ⟨k + 1, by omega, by rw [HQ2.out], by go_num, HRK5, HWK5, HBK5, HBP5, HBW5⟩ | (repeat (apply Exists.intro); (refine And.intro ?_ ?_; rotate_left; (repeat' (first | exact rfl | apply And.intro)); exact ⟨k + 1, by omega, by rw [HQ2.out], by go_num, HRK5, HWK5, HBK5, HBP5, HBW5⟩))
                case measure => simp [intOf]; omega
            · obtain rfl : k = 5 := by omega
              rw [show ((5 : Nat) : Int) = (5 : Int) from rfl]
              have b0 : wr.cell? ⟨rb56, 0, none⟩ = some (.string (bstr a)) := by rw [HBK.out.cell 0]; rfl
              have k0 := HRK.out.cell 0
              have z0 := HRK.out.frozen 0
              have b1 : wr.cell? ⟨rb56, 1, none⟩ = some (.string (bstr (unDash b))) := by rw [HBK.out.cell 1]; rfl
              have k1 := HRK.out.cell 1
              have z1 := HRK.out.frozen 1
              have b2 : wr.cell? ⟨rb56, 2, none⟩ = some (.int .i64 (numR c)) := by rw [HBK.out.cell 2]; show some (Value.int .i64 (numR ((sg s).getD 2 []))) = _; rw [HES.out]; rfl
              have k2 := HRK.out.cell 2
              have z2 := HRK.out.frozen 2
              have b3 : wr.cell? ⟨rb56, 3, none⟩ = some (.int .i64 (numR d)) := by rw [HBK.out.cell 3]; show some (Value.int .i64 (numR ((sg s).getD 3 []))) = _; rw [HES.out]; rfl
              have k3 := HRK.out.cell 3
              have z3 := HRK.out.frozen 3
              have b4 : wr.cell? ⟨rb56, 4, none⟩ = some (.int .i64 (numR ee)) := by rw [HBK.out.cell 4]; show some (Value.int .i64 (numR ((sg s).getD 4 []))) = _; rw [HES.out]; rfl
              have k4 := HRK.out.cell 4
              have z4 := HRK.out.frozen 4
              have b5 : wr.cell? ⟨rb56, 5, none⟩ = some (.int .i64 (numR f)) := by rw [HBK.out.cell 5]; show some (Value.int .i64 (numR ((sg s).getD 5 []))) = _; rw [HES.out]; rfl
              have k5 := HRK.out.cell 5
              have z5 := HRK.out.frozen 5
              have b6 : wr.cell? ⟨rb56, 6, none⟩ = some (.int .i64 (numR gg)) := by rw [HBK.out.cell 6]; show some (Value.int .i64 (numR ((sg s).getD 6 []))) = _; rw [HES.out]; rfl
              have k6 := HRK.out.cell 6
              have z6 := HRK.out.frozen 6
              have b7 : wr.cell? ⟨rb56, 7, none⟩ = some (.int .i64 (kindOf h)) := by rw [HBK.out.cell 7]; rfl
              have k7 := HRK.out.cell 7
              have z7 := HRK.out.frozen 7
              have b8 : wr.cell? ⟨rb56, 8, none⟩ = some (.string (bstr (unDash i))) := by rw [HBK.out.cell 8]; rfl
              have k8 := HRK.out.cell 8
              have z8 := HRK.out.frozen 8
              simp only [List.getElem?_cons_zero, List.getElem?_cons_succ] at k0 k1 k2 k3 k4 k5 k6 k7 k8
              have HRK2 := Lib.hid ((((((((((HRK.out.set_ 0 (.string (bstr a))).set_ 1 (.string (bstr (unDash b)))).set_ 2 (.int .i64 (numR c))).set_ 3 (.int .i64 (numR d))).set_ 4 (.int .i64 (numR ee))).set_ 5 (.int .i64 (numR f))).set_ 6 (.int .i64 (numR gg))).set_ 7 (.int .i64 (kindOf h))).set_ 8 (.string (bstr (unDash i)))))
              have HBL2 := Lib.hid ((((((((((HBW.out.setCell (p := ⟨w.heap.size, 0, none⟩) (Nat.le_refl _) (.string (bstr a))).setCell (p := ⟨w.heap.size, 1, none⟩) (Nat.le_refl _) (.string (bstr (unDash b)))).setCell (p := ⟨w.heap.size, 2, none⟩) (Nat.le_refl _) (.int .i64 (numR c))).setCell (p := ⟨w.heap.size, 3, none⟩) (Nat.le_refl _) (.int .i64 (numR d))).setCell (p := ⟨w.heap.size, 4, none⟩) (Nat.le_refl _) (.int .i64 (numR ee))).setCell (p := ⟨w.heap.size, 5, none⟩) (Nat.le_refl _) (.int .i64 (numR f))).setCell (p := ⟨w.heap.size, 6, none⟩) (Nat.le_refl _) (.int .i64 (numR gg))).setCell (p := ⟨w.heap.size, 7, none⟩) (Nat.le_refl _) (.int .i64 (kindOf h))).setCell (p := ⟨w.heap.size, 8, none⟩) (Nat.le_refl _) (.string (bstr (unDash i)))))
              have HPO : Hid (∀ w', Below w.heap.size w w' → RlPost s w (.returned (.tuple #[.agg #[.string (bstr a), .string (bstr (unDash b)), .int .i64 (numR c), .int .i64 (numR d), .int .i64 (numR ee), .int .i64 (numR f), .int .i64 (numR gg), .int .i64 (kindOf h), .string (bstr (unDash i))], .bool (decide (0 < kindOf h) && allN (sg s) 5)])) w') := Lib.hid (fun w' hb => by
                rw [HES.out]
                exact RlPost.fin HOK.out HNO.out hb)
              generalize (decide (0 < kindOf h) && allN (sg s) 5) = q at *
              go_wp2_with fail
              refine bodyPost_ret (results_row2 rfl _ _ w.heap.size 28 [.string (bstr a), .string (bstr (unDash b)), .int .i64 (numR c), .int .i64 (numR d), .int .i64 (numR ee), .int .i64 (numR f), .int .i64 (numR gg), .int .i64 (kindOf h), .string (bstr (unDash i))] _ rfl HRK2.out Tryz.underlying28 rfl right_info) rfl ?_
              exact HPO.out _ HBL2.out
        · rw [if_pos (by rfl)]
          simp only [List.getElem_toArray, List.getElem_cons_succ, List.getElem_cons_zero]
          go_simp
          have BA59 := Lib.hid (BK50.out.alloc BK50.out.size (.cells #[.string ⟨#[]⟩, .string ⟨#[]⟩, .int .i64 0, .int .i64 0, .int .i64 0, .int .i64 0, .int .i64 0, .int .i64 0, .string ⟨#[]⟩] 28))
          refine hK.out _ _ (KEEP.out _ BA59.out) (fun hHeld => ?_)
          clear hK K
          try simp only [List.getElem_toArray, List.getElem_cons_succ, List.getElem_cons_zero, Act.put, List.setIfInBounds_toArray, List.set_cons_zero, List.set_cons_succ]
          have HA60 := Lib.hid (Blk.new wu 28 [.string ⟨#[]⟩, .string ⟨#[]⟩, .int .i64 0, .int .i64 0, .int .i64 0, .int .i64 0, .int .i64 0, .int .i64 0, .string ⟨#[]⟩])
          have hrb : w2.heap.size ≤ wu.heap.size := BK50.out.size
          have HK62 := Lib.hid (HK51.out.same (same_below ((Below.refl wu.heap.size wu).alloc (Nat.le_refl _) (.cells #[.string ⟨#[]⟩, .string ⟨#[]⟩, .int .i64 0, .int .i64 0, .int .i64 0, .int .i64 0, .int .i64 0, .int .i64 0, .string ⟨#[]⟩] 28))) HK51.out.lt)
          generalize hwa : wu.alloc (.cells #[.string ⟨#[]⟩, .string ⟨#[]⟩, .int .i64 0, .int .i64 0, .int .i64 0, .int .i64 0, .int .i64 0, .int .i64 0, .string ⟨#[]⟩] 28) = wa58 at *
          generalize wu.heap.size = rb61 at *
          clear hwa
          refine wpAnyH_ready (rs := [16]) (by kernel_rfl) (by simp) ?_
          refine AllReadyH.cons rfl (fun K hK => ?_) AllReadyH.nil
          rw [if_pos (by rfl)]
          simp only [List.getElem_toArray, List.getElem_cons_succ, List.getElem_cons_zero]
          go_simp
          go_at_call 36
          refine (bare_any i wa58).mono ?_
          rintro e wu ⟨rfl, hwu⟩
          subst hwu
          show K _ wu
          refine hK.out _ _ (KEEP.out _ BA59.out) (fun hHeld => ?_)
          clear hK K
          try simp only [List.getElem_toArray, List.getElem_cons_succ, List.getElem_cons_zero, Act.put, List.setIfInBounds_toArray, List.set_cons_zero, List.set_cons_succ]
          refine wpAnyH_take (i := 17) (v := ?_) rfl (by kernel_rfl) (by kernel_rfl) (by kernel_rfl) (fun _ _ _ h => h) (Or.inl ⟨by rfl, ?_⟩) (by assumption) ?_
          rotate_left
          · (intro w hSw; (try (obtain ⟨q0, q1, q7, q8⟩ := hSw)); go_simp; (try rw [if_neg (by omega)]); (try simp only [HWQ.out]); try with_reducible rfl)
          try simp only [List.getElem_toArray, List.getElem_cons_succ, List.getElem_cons_zero, Act.put, List.setIfInBounds_toArray, List.set_cons_zero, List.set_cons_succ]
          have hr5 := HA60.out
          have c0 : _ = some (Value.string ⟨#[]⟩) := hr5.cell 0
          have y0 := hr5.frozen 0
          have c1 : _ = some (Value.string ⟨#[]⟩) := hr5.cell 1
          have y1 := hr5.frozen 1
          have c2 : _ = some (Value.int .i64 0) := hr5.cell 2
          have y2 := hr5.frozen 2
          have c3 : _ = some (Value.int .i64 0) := hr5.cell 3
          have y3 := hr5.frozen 3
          have c4 : _ = some (Value.int .i64 0) := hr5.cell 4
          have y4 := hr5.frozen 4
          have c5 : _ = some (Value.int .i64 0) := hr5.cell 5
          have y5 := hr5.frozen 5
          have c6 : _ = some (Value.int .i64 0) := hr5.cell 6
          have y6 := hr5.frozen 6
          have c7 : _ = some (Value.int .i64 0) := hr5.cell 7
          have y7 := hr5.frozen 7
          have c8 : _ = some (Value.string ⟨#[]⟩) := hr5.cell 8
          have y8 := hr5.frozen 8
          refine wpAnyH_ready (rs := [19]) (by kernel_rfl) (by simp) ?_
          refine AllReadyH.cons rfl (fun K hK => ?_) AllReadyH.nil
          rw [if_pos (by rfl)]
          simp only [List.getElem_toArray, List.getElem_cons_succ, List.getElem_cons_zero]
          go_simp
          refine hK.out _ _ (KEEP.out _ (((((((((BA59.out.setCell (p := ⟨rb61, 0, none⟩) hrb (.string (bstr a))).setCell (p := ⟨rb61, 1, none⟩) hrb (.string (bstr (unDash b)))).setCell (p := ⟨rb61, 2, none⟩) hrb (.int .i64 0)).setCell (p := ⟨rb61, 3, none⟩) hrb (.int .i64 0)).setCell (p := ⟨rb61, 4, none⟩) hrb (.int .i64 0)).setCell (p := ⟨rb61, 5, none⟩) hrb (.int .i64 0)).setCell (p := ⟨rb61, 6, none⟩) hrb (.int .i64 0)).setCell (p := ⟨rb61, 7, none⟩) hrb (.int .i64 (kindOf h))).setCell (p := ⟨rb61, 8, none⟩) hrb (.string (bstr (unDash i))))) (fun hHeld => ?_)
          clear hK K hHeld c0 y0 c1 y1 c2 y2 c3 y3 c4 y4 c5 y5 c6 y6 c7 y7 c8 y8
          try simp only [List.getElem_toArray, List.getElem_cons_succ, List.getElem_cons_zero, Act.put, List.setIfInBounds_toArray, List.set_cons_zero, List.set_cons_succ]
          refine wpAnyH_done (by kernel_rfl) ?_ _
          have HRZ := Lib.hid (((((((((hr5.set_ 0 (.string (bstr a))).set_ 1 (.string (bstr (unDash b)))).set_ 2 (.int .i64 0)).set_ 3 (.int .i64 0)).set_ 4 (.int .i64 0)).set_ 5 (.int .i64 0)).set_ 6 (.int .i64 0)).set_ 7 (.int .i64 (kindOf h))).set_ 8 (.string (bstr (unDash i))))
          have HBZ := Lib.hid (((((((((BA59.out.setCell (p := ⟨rb61, 0, none⟩) hrb (.string (bstr a))).setCell (p := ⟨rb61, 1, none⟩) hrb (.string (bstr (unDash b)))).setCell (p := ⟨rb61, 2, none⟩) hrb (.int .i64 0)).setCell (p := ⟨rb61, 3, none⟩) hrb (.int .i64 0)).setCell (p := ⟨rb61, 4, none⟩) hrb (.int .i64 0)).setCell (p := ⟨rb61, 5, none⟩) hrb (.int .i64 0)).setCell (p := ⟨rb61, 6, none⟩) hrb (.int .i64 0)).setCell (p := ⟨rb61, 7, none⟩) hrb (.int .i64 (kindOf h))).setCell (p := ⟨rb61, 8, none⟩) hrb (.string (bstr (unDash i))))
          clear hr5
          generalize hwz : (((((((((wu.setCell ⟨rb61, 0, none⟩ (.string (bstr a))).setCell ⟨rb61, 1, none⟩ (.string (bstr (unDash b)))).setCell ⟨rb61, 2, none⟩ (.int .i64 0)).setCell ⟨rb61, 3, none⟩ (.int .i64 0)).setCell ⟨rb61, 4, none⟩ (.int .i64 0)).setCell ⟨rb61, 5, none⟩ (.int .i64 0)).setCell ⟨rb61, 6, none⟩ (.int .i64 0)).setCell ⟨rb61, 7, none⟩ (.int .i64 (kindOf h))).setCell ⟨rb61, 8, none⟩ (.string (bstr (unDash i)))) = wz at *
          clear hwz
          have hrz := HRZ.out
          simp only [List.set_cons_zero, List.set_cons_succ] at hrz
          have HRQ := Lib.hid (HR1.out.same (same_below HBZ.out) HR1.out.lt)
          have HWZ := Lib.hid (HW1.out.same (same_below HBZ.out) HW1.out.lt)
          have HBW0 := Lib.hid (ext_trans HB1.out HBZ.out)
          have hne : w.heap.size ≠ rb61 := by have := HR1.out.lt; omega
          have hne1 : w.heap.size + 1 ≠ rb61 := by have := HW1.out.lt; omega
          have hrbw : w.heap.size ≤ rb61 := by have := HB1.out.size; omega
          have f7 : wz.cell? ⟨rb61, 7, none⟩ = some (.int .i64 (kindOf h)) := hrz.cell 7
          have hrlt := hrz.lt
          have hal := (Below.refl wz.heap.size wz).alloc (Nat.le_refl _) (.cells #[.pointer (some ⟨rb61, 2, none⟩), .pointer (some ⟨rb61, 3, none⟩), .pointer (some ⟨rb61, 4, none⟩), .pointer (some ⟨rb61, 5, none⟩), .pointer (some ⟨rb61, 6, none⟩)] 68)
          have hrl := hrz.same (same_below hal) hrz.lt
          have Hrb61 := Lib.hid hrl
          have HRL := Lib.hid (HRQ.out.same (same_below hal) HRQ.out.lt)
          have HWL := Lib.hid (HWZ.out.same (same_below hal) HWZ.out.lt)
          have HBL := Lib.hid (ext_trans HBW0.out hal)
          have HPB := Lib.hid (Blk.new wz 68 [.pointer (some ⟨rb61, 2, none⟩), .pointer (some ⟨rb61, 3, none⟩), .pointer (some ⟨rb61, 4, none⟩), .pointer (some ⟨rb61, 5, none⟩), .pointer (some ⟨rb61, 6, none⟩)])
          have hne2 : wz.heap.size ≠ rb61 := by omega
          clear hrz HRZ HBZ HR1 HW1 HB1 hal hrl HRQ HWZ HBW0 KEEP
          go_wp2_with fail
          clear f7 hrlt
          generalize wz.alloc (.cells #[.pointer (some ⟨rb61, 2, none⟩), .pointer (some ⟨rb61, 3, none⟩), .pointer (some ⟨rb61, 4, none⟩), .pointer (some ⟨rb61, 5, none⟩), .pointer (some ⟨rb61, 6, none⟩)] 68) = wl at *
          generalize wz.heap.size = pb at *
          go_loopw [6, 66] (fun v6 vi wr => ∃ k : Nat, k ≤ 5 ∧ v6 = .bool (decide (0 < kindOf h) && allN (sg s) k) ∧ vi = .int .i64 k ∧ Hid (Blk wr w.heap.size 28 [.string ⟨#[]⟩, .string ⟨#[]⟩, .int .i64 0, .int .i64 0, .int .i64 0, .int .i64 0, .int .i64 0, .int .i64 0, .string ⟨#[]⟩]) ∧ Hid (Blk wr (w.heap.size + 1) 9 ((sg s).map fun x => Value.string (bstr x))) ∧ Hid (Blk wr rb61 28 (nCells a (unDash b) (kindOf h) (unDash i) (fun j => numR ((sg s).getD (2 + j) [])) k)) ∧ Hid (Blk wr pb 68 [.pointer (some ⟨rb61, 2, none⟩), .pointer (some ⟨rb61, 3, none⟩), .pointer (some ⟨rb61, 4, none⟩), .pointer (some ⟨rb61, 5, none⟩), .pointer (some ⟨rb61, 6, none⟩)]) ∧ Hid (Below w.heap.size w wr)) (fun _ vi _ => 5 - (intOf vi).toNat)
          case atStart => exact ⟨0, by omega, by rw [show allN (sg s) 0 = true from rfl, Bool.and_true], rfl, HRL, HWL, Hrb61, HPB, HBL⟩
          case round =>
            obtain ⟨k, hk, rfl, rfl, HRK, HWK, HBK, HBP, HBW⟩ := hrel
            by_cases hlt : k < 5
            · have hlw : 2 + k < (sg s).length := by have := H9.out; omega
              have c0 : wr.cell? ⟨w.heap.size + 1, 2 + k, none⟩ = some (.string (bstr (sg s)[2 + k])) := by rw [HWK.out.cell (2 + k), List.getElem?_map, List.getElem?_eq_getElem hlw]; rfl
              have p0 : wr.cell? ⟨pb, k, none⟩ = some (.pointer (some ⟨rb61, 2 + k, none⟩)) := by
                rw [HBP.out.cell k]
                have : k = 0 ∨ k = 1 ∨ k = 2 ∨ k = 3 ∨ k = 4 := by omega
                rcases this with rfl | rfl | rfl | rfl | rfl <;> rfl
              have HLX := Lib.hid (HSL.out (sg s)[2 + k] (List.getElem_mem _))
              have HGD : (sg s).getD (2 + k) [] = (sg s)[2 + k] := by rw [List.getD_eq_getElem?_getD, List.getElem?_eq_getElem hlw]; rfl
              have HNS : Hid (∀ (g : Nat) (wq : World), Blk wq g 28 (nCells a (unDash b) (kindOf h) (unDash i) (fun j => numR ((sg s).getD (2 + j) [])) k) → Blk (wq.setCell ⟨g, 2 + k, none⟩ (.int .i64 (numR (sg s)[2 + k]))) g 28 (nCells a (unDash b) (kindOf h) (unDash i) (fun j => numR ((sg s).getD (2 + j) [])) (k + 1))) := Lib.hid (fun g wq hb => by
                have h1 := hb.set_ (2 + k) (.int .i64 (numR ((sg s).getD (2 + k) [])))
                rw [nCells_set (fun j => numR ((sg s).getD (2 + j) [])) hlt, HGD] at h1
                exact h1)
              have HNX : Hid (allN (sg s) (k + 1) = (allN (sg s) k && numB (sg s)[2 + k])) := Lib.hid (by rw [allN_succ, HGD])
              have HOLD : Hid (∃ v, (nCells a (unDash b) (kindOf h) (unDash i) (fun j => numR ((sg s).getD (2 + j) [])) k)[2 + k]? = some v) := Lib.hid (by
                have : k = 0 ∨ k = 1 ∨ k = 2 ∨ k = 3 ∨ k = 4 := by omega
                rcases this with rfl | rfl | rfl | rfl | rfl <;> exact ⟨_, rfl⟩)
              clear HGD
              generalize (sg s)[2 + k] = x at *
              have hk5 : (k : Int) < 5 := by omega
              have hk2 : (2 + (k : Int)).toNat = 2 + k := by omega
              have hk9 : 2 + (k : Int) < 9 := by omega
              go_wp2_with fail
              refine (hnumber_any x wr (by have := HLX.out; omega)).mono ?_
              rintro e w4 ⟨rfl, hb4⟩
              have HRK4 := Lib.hid (HRK.out.same (same_below hb4) HRK.out.lt)
              have HWK4 := Lib.hid (HWK.out.same (same_below hb4) HWK.out.lt)
              have HBK4 := Lib.hid (HBK.out.same (same_below hb4) HBK.out.lt)
              have HBP4 := Lib.hid (HBP.out.same (same_below hb4) HBP.out.lt)
              have HBW4 := Lib.hid (ext_trans HBW.out hb4)
              obtain ⟨vold, hvold⟩ := HOLD.out
              have d0 : w4.cell? ⟨rb61, 2 + k, none⟩ = some vold := (HBK4.out.cell (2 + k)).trans hvold
              have y0 := HBK4.out.frozen (2 + k)
              have HRK5 := Lib.hid (HRK4.out.same (set_same w4 (i := 2 + k) (v := .int .i64 (numR x)) (show w.heap.size ≠ rb61 from hne)) rfl)
              have HWK5 := Lib.hid (HWK4.out.same (set_same w4 (i := 2 + k) (v := .int .i64 (numR x)) (show w.heap.size + 1 ≠ rb61 from hne1)) rfl)
              have HBP5 := Lib.hid (HBP4.out.same (set_same w4 (i := 2 + k) (v := .int .i64 (numR x)) (show pb ≠ rb61 from hne2)) rfl)
              have HBK5 := Lib.hid (HNS.out rb61 w4 HBK4.out)
              have HBW5 := Lib.hid (HBW4.out.setCell (p := ⟨rb61, 2 + k, none⟩) hrbw (.int .i64 (numR x)))
              clear hb4 HRK HWK HBK HBP HBW HRK4 HWK4 HBK4 HBP4 HBW4 HNS HOLD c0 p0 hvold
              have HQE : Hid ((decide (0 < kindOf h) && allN (sg s) (k + 1)) = ((decide (0 < kindOf h) && allN (sg s) k) && numB x)) := Lib.hid (by rw [HNX.out, Bool.and_assoc])
              generalize (decide (0 < kindOf h) && allN (sg s) k) = q at *
              generalize numB x = nb at *
              cases q with
              | true =>
                have HQ2 : Hid ((decide (0 < kindOf h) && allN (sg s) (k + 1)) = nb) := Lib.hid (by rw [HQE.out, Bool.true_and])
                clear HQE HNX
                go_wp2_with fail
                go_roundw
                case rel => first | exact ⟨k + 1, by omega, by rw [HQ2.out], by go_num, HRK5, HWK5, HBK5, HBP5, HBW5⟩ | (repeat (apply Exists.intro); (refine And.intro ?_ ?_; rotate_left; (repeat' (first | exact rfl | apply And.intro)); exact ⟨k + 1, by omega, by rw [HQ2.out], by go_num, HRK5, HWK5, HBK5, HBP5, HBW5⟩))
                case measure => simp [intOf]; omega
              | false =>
                have HQ2 : Hid ((decide (0 < kindOf h) && allN (sg s) (k + 1)) = false) := Lib.hid (by rw [HQE.out, Bool.false_and])
                clear HQE HNX
                go_wp2_with fail
                go_roundw
                case rel => first | exact ⟨k + 1, by omega, by rw [HQ2.out], by go_num, HRK5, HWK5, HBK5, HBP5, HBW5⟩ | (repeat (apply Exists.intro); (refine And.intro ?_ ?_; rotate_left; (repeat' (first | exact rfl | apply And.intro)); exact ⟨k + 1, by omega, by rw [HQ2.out], by go_num, HRK5, HWK5, HBK5, HBP5, HBW5⟩))
                case measure => simp [intOf]; omega
            · obtain rfl : k = 5 := by omega
              rw [show ((5 : Nat) : Int) = (5 : Int) from rfl]
              have b0 : wr.cell? ⟨rb61, 0, none⟩ = some (.string (bstr a)) := by rw [HBK.out.cell 0]; rfl
              have k0 := HRK.out.cell 0
              have z0 := HRK.out.frozen 0
              have b1 : wr.cell? ⟨rb61, 1, none⟩ = some (.string (bstr (unDash b))) := by rw [HBK.out.cell 1]; rfl
              have k1 := HRK.out.cell 1
              have z1 := HRK.out.frozen 1
              have b2 : wr.cell? ⟨rb61, 2, none⟩ = some (.int .i64 (numR c)) := by rw [HBK.out.cell 2]; show some (Value.int .i64 (numR ((sg s).getD 2 []))) = _; rw [HES.out]; rfl
              have k2 := HRK.out.cell 2
              have z2 := HRK.out.frozen 2
              have b3 : wr.cell? ⟨rb61, 3, none⟩ = some (.int .i64 (numR d)) := by rw [HBK.out.cell 3]; show some (Value.int .i64 (numR ((sg s).getD 3 []))) = _; rw [HES.out]; rfl
              have k3 := HRK.out.cell 3
              have z3 := HRK.out.frozen 3
              have b4 : wr.cell? ⟨rb61, 4, none⟩ = some (.int .i64 (numR ee)) := by rw [HBK.out.cell 4]; show some (Value.int .i64 (numR ((sg s).getD 4 []))) = _; rw [HES.out]; rfl
              have k4 := HRK.out.cell 4
              have z4 := HRK.out.frozen 4
              have b5 : wr.cell? ⟨rb61, 5, none⟩ = some (.int .i64 (numR f)) := by rw [HBK.out.cell 5]; show some (Value.int .i64 (numR ((sg s).getD 5 []))) = _; rw [HES.out]; rfl
              have k5 := HRK.out.cell 5
              have z5 := HRK.out.frozen 5
              have b6 : wr.cell? ⟨rb61, 6, none⟩ = some (.int .i64 (numR gg)) := by rw [HBK.out.cell 6]; show some (Value.int .i64 (numR ((sg s).getD 6 []))) = _; rw [HES.out]; rfl
              have k6 := HRK.out.cell 6
              have z6 := HRK.out.frozen 6
              have b7 : wr.cell? ⟨rb61, 7, none⟩ = some (.int .i64 (kindOf h)) := by rw [HBK.out.cell 7]; rfl
              have k7 := HRK.out.cell 7
              have z7 := HRK.out.frozen 7
              have b8 : wr.cell? ⟨rb61, 8, none⟩ = some (.string (bstr (unDash i))) := by rw [HBK.out.cell 8]; rfl
              have k8 := HRK.out.cell 8
              have z8 := HRK.out.frozen 8
              simp only [List.getElem?_cons_zero, List.getElem?_cons_succ] at k0 k1 k2 k3 k4 k5 k6 k7 k8
              have HRK2 := Lib.hid ((((((((((HRK.out.set_ 0 (.string (bstr a))).set_ 1 (.string (bstr (unDash b)))).set_ 2 (.int .i64 (numR c))).set_ 3 (.int .i64 (numR d))).set_ 4 (.int .i64 (numR ee))).set_ 5 (.int .i64 (numR f))).set_ 6 (.int .i64 (numR gg))).set_ 7 (.int .i64 (kindOf h))).set_ 8 (.string (bstr (unDash i)))))
              have HBL2 := Lib.hid ((((((((((HBW.out.setCell (p := ⟨w.heap.size, 0, none⟩) (Nat.le_refl _) (.string (bstr a))).setCell (p := ⟨w.heap.size, 1, none⟩) (Nat.le_refl _) (.string (bstr (unDash b)))).setCell (p := ⟨w.heap.size, 2, none⟩) (Nat.le_refl _) (.int .i64 (numR c))).setCell (p := ⟨w.heap.size, 3, none⟩) (Nat.le_refl _) (.int .i64 (numR d))).setCell (p := ⟨w.heap.size, 4, none⟩) (Nat.le_refl _) (.int .i64 (numR ee))).setCell (p := ⟨w.heap.size, 5, none⟩) (Nat.le_refl _) (.int .i64 (numR f))).setCell (p := ⟨w.heap.size, 6, none⟩) (Nat.le_refl _) (.int .i64 (numR gg))).setCell (p := ⟨w.heap.size, 7, none⟩) (Nat.le_refl _) (.int .i64 (kindOf h))).setCell (p := ⟨w.heap.size, 8, none⟩) (Nat.le_refl _) (.string (bstr (unDash i)))))
              have HPO : Hid (∀ w', Below w.heap.size w w' → RlPost s w (.returned (.tuple #[.agg #[.string (bstr a), .string (bstr (unDash b)), .int .i64 (numR c), .int .i64 (numR d), .int .i64 (numR ee), .int .i64 (numR f), .int .i64 (numR gg), .int .i64 (kindOf h), .string (bstr (unDash i))], .bool (decide (0 < kindOf h) && allN (sg s) 5)])) w') := Lib.hid (fun w' hb => by
                rw [HES.out]
                exact RlPost.fin HOK.out HNO.out hb)
              generalize (decide (0 < kindOf h) && allN (sg s) 5) = q at *
              go_wp2_with fail
              refine bodyPost_ret (results_row2 rfl _ _ w.heap.size 28 [.string (bstr a), .string (bstr (unDash b)), .int .i64 (numR c), .int .i64 (numR d), .int .i64 (numR ee), .int .i64 (numR f), .int .i64 (numR gg), .int .i64 (kindOf h), .string (bstr (unDash i))] _ rfl HRK2.out Tryz.underlying28 rfl right_info) rfl ?_
              exact HPO.out _ HBL2.out
      · rw [if_pos (by rfl)]
        simp only [List.getElem_toArray, List.getElem_cons_succ, List.getElem_cons_zero]
        go_simp
        have BA64 := Lib.hid (BK50.out.alloc BK50.out.size (.cells #[.string ⟨#[]⟩, .string ⟨#[]⟩, .int .i64 0, .int .i64 0, .int .i64 0, .int .i64 0, .int .i64 0, .int .i64 0, .string ⟨#[]⟩] 28))
        refine hK.out _ _ (KEEP.out _ BA64.out) (fun hHeld => ?_)
        clear hK K
        try simp only [List.getElem_toArray, List.getElem_cons_succ, List.getElem_cons_zero, Act.put, List.setIfInBounds_toArray, List.set_cons_zero, List.set_cons_succ]
        have HA65 := Lib.hid (Blk.new wk49 28 [.string ⟨#[]⟩, .string ⟨#[]⟩, .int .i64 0, .int .i64 0, .int .i64 0, .int .i64 0, .int .i64 0, .int .i64 0, .string ⟨#[]⟩])
        have hrb : w2.heap.size ≤ wk49.heap.size := BK50.out.size
        have HK67 := Lib.hid (HK51.out.same (same_below ((Below.refl wk49.heap.size wk49).alloc (Nat.le_refl _) (.cells #[.string ⟨#[]⟩, .string ⟨#[]⟩, .int .i64 0, .int .i64 0, .int .i64 0, .int .i64 0, .int .i64 0, .int .i64 0, .string ⟨#[]⟩] 28))) HK51.out.lt)
        generalize hwa : wk49.alloc (.cells #[.string ⟨#[]⟩, .string ⟨#[]⟩, .int .i64 0, .int .i64 0, .int .i64 0, .int .i64 0, .int .i64 0, .int .i64 0, .string ⟨#[]⟩] 28) = wa63 at *
        generalize wk49.heap.size = rb66 at *
        clear hwa
        refine wpAnyH_ready (rs := [11]) (by kernel_rfl) (by simp) ?_
        refine AllReadyH.cons rfl (fun K hK => ?_) AllReadyH.nil
        rw [if_pos (by rfl)]
        simp only [List.getElem_toArray, List.getElem_cons_succ, List.getElem_cons_zero]
        go_simp
        go_at_call 32
        refine (kindIx_any kb52 h wa63 HK67.out).mono ?_
        rintro e wu ⟨rfl, hwu⟩
        subst hwu
        show K _ wu
        refine hK.out _ _ (KEEP.out _ BA64.out) (fun hHeld => ?_)
        clear hK K
        try simp only [List.getElem_toArray, List.getElem_cons_succ, List.getElem_cons_zero, Act.put, List.setIfInBounds_toArray, List.set_cons_zero, List.set_cons_succ]
        refine wpAnyH_take (i := 12) (v := ?_) rfl (by kernel_rfl) (by kernel_rfl) (by kernel_rfl) (fun _ _ _ h => h) (Or.inl ⟨by rfl, ?_⟩) (by assumption) ?_
        rotate_left
        · (intro w hSw; (try (obtain ⟨q0, q1, q7, q8⟩ := hSw)); go_simp; (try rw [if_neg (by omega)]); (try simp only [HWQ.out]); try with_reducible rfl)
        try simp only [List.getElem_toArray, List.getElem_cons_succ, List.getElem_cons_zero, Act.put, List.setIfInBounds_toArray, List.set_cons_zero, List.set_cons_succ]
        refine wpAnyH_ready (rs := [16]) (by kernel_rfl) (by simp) ?_
        refine AllReadyH.cons rfl (fun K hK => ?_) AllReadyH.nil
        rw [if_pos (by rfl)]
        simp only [List.getElem_toArray, List.getElem_cons_succ, List.getElem_cons_zero]
        go_simp
        go_at_call 36
        refine (bare_any i wu).mono ?_
        rintro e wu ⟨rfl, hwu⟩
        subst hwu
        show K _ wu
        refine hK.out _ _ (KEEP.out _ BA64.out) (fun hHeld => ?_)
        clear hK K
        try simp only [List.getElem_toArray, List.getElem_cons_succ, List.getElem_cons_zero, Act.put, List.setIfInBounds_toArray, List.set_cons_zero, List.set_cons_succ]
        refine wpAnyH_take (i := 17) (v := ?_) rfl (by kernel_rfl) (by kernel_rfl) (by kernel_rfl) (fun _ _ _ h => h) (Or.inl ⟨by rfl, ?_⟩) (by assumption) ?_
        rotate_left
        · (intro w hSw; (try (obtain ⟨q0, q1, q7, q8⟩ := hSw)); go_simp; (try rw [if_neg (by omega)]); (try simp only [HWQ.out]); try with_reducible rfl)
        try simp only [List.getElem_toArray, List.getElem_cons_succ, List.getElem_cons_zero, Act.put, List.setIfInBounds_toArray, List.set_cons_zero, List.set_cons_succ]
        have hr5 := HA65.out
        have c0 : _ = some (Value.string ⟨#[]⟩) := hr5.cell 0
        have y0 := hr5.frozen 0
        have c1 : _ = some (Value.string ⟨#[]⟩) := hr5.cell 1
        have y1 := hr5.frozen 1
        have c2 : _ = some (Value.int .i64 0) := hr5.cell 2
        have y2 := hr5.frozen 2
        have c3 : _ = some (Value.int .i64 0) := hr5.cell 3
        have y3 := hr5.frozen 3
        have c4 : _ = some (Value.int .i64 0) := hr5.cell 4
        have y4 := hr5.frozen 4
        have c5 : _ = some (Value.int .i64 0) := hr5.cell 5
        have y5 := hr5.frozen 5
        have c6 : _ = some (Value.int .i64 0) := hr5.cell 6
        have y6 := hr5.frozen 6
        have c7 : _ = some (Value.int .i64 0) := hr5.cell 7
        have y7 := hr5.frozen 7
        have c8 : _ = some (Value.string ⟨#[]⟩) := hr5.cell 8
        have y8 := hr5.frozen 8
        refine wpAnyH_ready (rs := [19]) (by kernel_rfl) (by simp) ?_
        refine AllReadyH.cons rfl (fun K hK => ?_) AllReadyH.nil
        rw [if_pos (by rfl)]
        simp only [List.getElem_toArray, List.getElem_cons_succ, List.getElem_cons_zero]
        go_simp
        refine hK.out _ _ (KEEP.out _ (((((((((BA64.out.setCell (p := ⟨rb66, 0, none⟩) hrb (.string (bstr a))).setCell (p := ⟨rb66, 1, none⟩) hrb (.string (bstr (unDash b)))).setCell (p := ⟨rb66, 2, none⟩) hrb (.int .i64 0)).setCell (p := ⟨rb66, 3, none⟩) hrb (.int .i64 0)).setCell (p := ⟨rb66, 4, none⟩) hrb (.int .i64 0)).setCell (p := ⟨rb66, 5, none⟩) hrb (.int .i64 0)).setCell (p := ⟨rb66, 6, none⟩) hrb (.int .i64 0)).setCell (p := ⟨rb66, 7, none⟩) hrb (.int .i64 (kindOf h))).setCell (p := ⟨rb66, 8, none⟩) hrb (.string (bstr (unDash i))))) (fun hHeld => ?_)
        clear hK K hHeld c0 y0 c1 y1 c2 y2 c3 y3 c4 y4 c5 y5 c6 y6 c7 y7 c8 y8
        try simp only [List.getElem_toArray, List.getElem_cons_succ, List.getElem_cons_zero, Act.put, List.setIfInBounds_toArray, List.set_cons_zero, List.set_cons_succ]
        refine wpAnyH_done (by kernel_rfl) ?_ _
        have HRZ := Lib.hid (((((((((hr5.set_ 0 (.string (bstr a))).set_ 1 (.string (bstr (unDash b)))).set_ 2 (.int .i64 0)).set_ 3 (.int .i64 0)).set_ 4 (.int .i64 0)).set_ 5 (.int .i64 0)).set_ 6 (.int .i64 0)).set_ 7 (.int .i64 (kindOf h))).set_ 8 (.string (bstr (unDash i))))
        have HBZ := Lib.hid (((((((((BA64.out.setCell (p := ⟨rb66, 0, none⟩) hrb (.string (bstr a))).setCell (p := ⟨rb66, 1, none⟩) hrb (.string (bstr (unDash b)))).setCell (p := ⟨rb66, 2, none⟩) hrb (.int .i64 0)).setCell (p := ⟨rb66, 3, none⟩) hrb (.int .i64 0)).setCell (p := ⟨rb66, 4, none⟩) hrb (.int .i64 0)).setCell (p := ⟨rb66, 5, none⟩) hrb (.int .i64 0)).setCell (p := ⟨rb66, 6, none⟩) hrb (.int .i64 0)).setCell (p := ⟨rb66, 7, none⟩) hrb (.int .i64 (kindOf h))).setCell (p := ⟨rb66, 8, none⟩) hrb (.string (bstr (unDash i))))
        clear hr5
        generalize hwz : (((((((((wu.setCell ⟨rb66, 0, none⟩ (.string (bstr a))).setCell ⟨rb66, 1, none⟩ (.string (bstr (unDash b)))).setCell ⟨rb66, 2, none⟩ (.int .i64 0)).setCell ⟨rb66, 3, none⟩ (.int .i64 0)).setCell ⟨rb66, 4, none⟩ (.int .i64 0)).setCell ⟨rb66, 5, none⟩ (.int .i64 0)).setCell ⟨rb66, 6, none⟩ (.int .i64 0)).setCell ⟨rb66, 7, none⟩ (.int .i64 (kindOf h))).setCell ⟨rb66, 8, none⟩ (.string (bstr (unDash i)))) = wz at *
        clear hwz
        have hrz := HRZ.out
        simp only [List.set_cons_zero, List.set_cons_succ] at hrz
        have HRQ := Lib.hid (HR1.out.same (same_below HBZ.out) HR1.out.lt)
        have HWZ := Lib.hid (HW1.out.same (same_below HBZ.out) HW1.out.lt)
        have HBW0 := Lib.hid (ext_trans HB1.out HBZ.out)
        have hne : w.heap.size ≠ rb66 := by have := HR1.out.lt; omega
        have hne1 : w.heap.size + 1 ≠ rb66 := by have := HW1.out.lt; omega
        have hrbw : w.heap.size ≤ rb66 := by have := HB1.out.size; omega
        have f7 : wz.cell? ⟨rb66, 7, none⟩ = some (.int .i64 (kindOf h)) := hrz.cell 7
        have hrlt := hrz.lt
        have hal := (Below.refl wz.heap.size wz).alloc (Nat.le_refl _) (.cells #[.pointer (some ⟨rb66, 2, none⟩), .pointer (some ⟨rb66, 3, none⟩), .pointer (some ⟨rb66, 4, none⟩), .pointer (some ⟨rb66, 5, none⟩), .pointer (some ⟨rb66, 6, none⟩)] 68)
        have hrl := hrz.same (same_below hal) hrz.lt
        have Hrb66 := Lib.hid hrl
        have HRL := Lib.hid (HRQ.out.same (same_below hal) HRQ.out.lt)
        have HWL := Lib.hid (HWZ.out.same (same_below hal) HWZ.out.lt)
        have HBL := Lib.hid (ext_trans HBW0.out hal)
        have HPB := Lib.hid (Blk.new wz 68 [.pointer (some ⟨rb66, 2, none⟩), .pointer (some ⟨rb66, 3, none⟩), .pointer (some ⟨rb66, 4, none⟩), .pointer (some ⟨rb66, 5, none⟩), .pointer (some ⟨rb66, 6, none⟩)])
        have hne2 : wz.heap.size ≠ rb66 := by omega
        clear hrz HRZ HBZ HR1 HW1 HB1 hal hrl HRQ HWZ HBW0 KEEP
        go_wp2_with fail
        clear f7 hrlt
        generalize wz.alloc (.cells #[.pointer (some ⟨rb66, 2, none⟩), .pointer (some ⟨rb66, 3, none⟩), .pointer (some ⟨rb66, 4, none⟩), .pointer (some ⟨rb66, 5, none⟩), .pointer (some ⟨rb66, 6, none⟩)] 68) = wl at *
        generalize wz.heap.size = pb at *
        go_loopw [6, 66] (fun v6 vi wr => ∃ k : Nat, k ≤ 5 ∧ v6 = .bool (decide (0 < kindOf h) && allN (sg s) k) ∧ vi = .int .i64 k ∧ Hid (Blk wr w.heap.size 28 [.string ⟨#[]⟩, .string ⟨#[]⟩, .int .i64 0, .int .i64 0, .int .i64 0, .int .i64 0, .int .i64 0, .int .i64 0, .string ⟨#[]⟩]) ∧ Hid (Blk wr (w.heap.size + 1) 9 ((sg s).map fun x => Value.string (bstr x))) ∧ Hid (Blk wr rb66 28 (nCells a (unDash b) (kindOf h) (unDash i) (fun j => numR ((sg s).getD (2 + j) [])) k)) ∧ Hid (Blk wr pb 68 [.pointer (some ⟨rb66, 2, none⟩), .pointer (some ⟨rb66, 3, none⟩), .pointer (some ⟨rb66, 4, none⟩), .pointer (some ⟨rb66, 5, none⟩), .pointer (some ⟨rb66, 6, none⟩)]) ∧ Hid (Below w.heap.size w wr)) (fun _ vi _ => 5 - (intOf vi).toNat)
        case atStart => exact ⟨0, by omega, by rw [show allN (sg s) 0 = true from rfl, Bool.and_true], rfl, HRL, HWL, Hrb66, HPB, HBL⟩
        case round =>
          obtain ⟨k, hk, rfl, rfl, HRK, HWK, HBK, HBP, HBW⟩ := hrel
          by_cases hlt : k < 5
          · have hlw : 2 + k < (sg s).length := by have := H9.out; omega
            have c0 : wr.cell? ⟨w.heap.size + 1, 2 + k, none⟩ = some (.string (bstr (sg s)[2 + k])) := by rw [HWK.out.cell (2 + k), List.getElem?_map, List.getElem?_eq_getElem hlw]; rfl
            have p0 : wr.cell? ⟨pb, k, none⟩ = some (.pointer (some ⟨rb66, 2 + k, none⟩)) := by
              rw [HBP.out.cell k]
              have : k = 0 ∨ k = 1 ∨ k = 2 ∨ k = 3 ∨ k = 4 := by omega
              rcases this with rfl | rfl | rfl | rfl | rfl <;> rfl
            have HLX := Lib.hid (HSL.out (sg s)[2 + k] (List.getElem_mem _))
            have HGD : (sg s).getD (2 + k) [] = (sg s)[2 + k] := by rw [List.getD_eq_getElem?_getD, List.getElem?_eq_getElem hlw]; rfl
            have HNS : Hid (∀ (g : Nat) (wq : World), Blk wq g 28 (nCells a (unDash b) (kindOf h) (unDash i) (fun j => numR ((sg s).getD (2 + j) [])) k) → Blk (wq.setCell ⟨g, 2 + k, none⟩ (.int .i64 (numR (sg s)[2 + k]))) g 28 (nCells a (unDash b) (kindOf h) (unDash i) (fun j => numR ((sg s).getD (2 + j) [])) (k + 1))) := Lib.hid (fun g wq hb => by
              have h1 := hb.set_ (2 + k) (.int .i64 (numR ((sg s).getD (2 + k) [])))
              rw [nCells_set (fun j => numR ((sg s).getD (2 + j) [])) hlt, HGD] at h1
              exact h1)
            have HNX : Hid (allN (sg s) (k + 1) = (allN (sg s) k && numB (sg s)[2 + k])) := Lib.hid (by rw [allN_succ, HGD])
            have HOLD : Hid (∃ v, (nCells a (unDash b) (kindOf h) (unDash i) (fun j => numR ((sg s).getD (2 + j) [])) k)[2 + k]? = some v) := Lib.hid (by
              have : k = 0 ∨ k = 1 ∨ k = 2 ∨ k = 3 ∨ k = 4 := by omega
              rcases this with rfl | rfl | rfl | rfl | rfl <;> exact ⟨_, rfl⟩)
            clear HGD
            generalize (sg s)[2 + k] = x at *
            have hk5 : (k : Int) < 5 := by omega
            have hk2 : (2 + (k : Int)).toNat = 2 + k := by omega
            have hk9 : 2 + (k : Int) < 9 := by omega
            go_wp2_with fail
            refine (hnumber_any x wr (by have := HLX.out; omega)).mono ?_
            rintro e w4 ⟨rfl, hb4⟩
            have HRK4 := Lib.hid (HRK.out.same (same_below hb4) HRK.out.lt)
            have HWK4 := Lib.hid (HWK.out.same (same_below hb4) HWK.out.lt)
            have HBK4 := Lib.hid (HBK.out.same (same_below hb4) HBK.out.lt)
            have HBP4 := Lib.hid (HBP.out.same (same_below hb4) HBP.out.lt)
            have HBW4 := Lib.hid (ext_trans HBW.out hb4)
            obtain ⟨vold, hvold⟩ := HOLD.out
            have d0 : w4.cell? ⟨rb66, 2 + k, none⟩ = some vold := (HBK4.out.cell (2 + k)).trans hvold
            have y0 := HBK4.out.frozen (2 + k)
            have HRK5 := Lib.hid (HRK4.out.same (set_same w4 (i := 2 + k) (v := .int .i64 (numR x)) (show w.heap.size ≠ rb66 from hne)) rfl)
            have HWK5 := Lib.hid (HWK4.out.same (set_same w4 (i := 2 + k) (v := .int .i64 (numR x)) (show w.heap.size + 1 ≠ rb66 from hne1)) rfl)
            have HBP5 := Lib.hid (HBP4.out.same (set_same w4 (i := 2 + k) (v := .int .i64 (numR x)) (show pb ≠ rb66 from hne2)) rfl)
            have HBK5 := Lib.hid (HNS.out rb66 w4 HBK4.out)
            have HBW5 := Lib.hid (HBW4.out.setCell (p := ⟨rb66, 2 + k, none⟩) hrbw (.int .i64 (numR x)))
            clear hb4 HRK HWK HBK HBP HBW HRK4 HWK4 HBK4 HBP4 HBW4 HNS HOLD c0 p0 hvold
            have HQE : Hid ((decide (0 < kindOf h) && allN (sg s) (k + 1)) = ((decide (0 < kindOf h) && allN (sg s) k) && numB x)) := Lib.hid (by rw [HNX.out, Bool.and_assoc])
            generalize (decide (0 < kindOf h) && allN (sg s) k) = q at *
            generalize numB x = nb at *
            cases q with
            | true =>
              have HQ2 : Hid ((decide (0 < kindOf h) && allN (sg s) (k + 1)) = nb) := Lib.hid (by rw [HQE.out, Bool.true_and])
              clear HQE HNX
              go_wp2_with fail
              go_roundw
              case rel => first | exact ⟨k + 1, by omega, by rw [HQ2.out], by go_num, HRK5, HWK5, HBK5, HBP5, HBW5⟩ | (repeat (apply Exists.intro); (refine And.intro ?_ ?_; rotate_left; (repeat' (first | exact rfl | apply And.intro)); exact ⟨k + 1, by omega, by rw [HQ2.out], by go_num, HRK5, HWK5, HBK5, HBP5, HBW5⟩))
              case measure => simp [intOf]; omega
            | false =>
              have HQ2 : Hid ((decide (0 < kindOf h) && allN (sg s) (k + 1)) = false) := Lib.hid (by rw [HQE.out, Bool.false_and])
              clear HQE HNX
              go_wp2_with fail
              go_roundw
              case rel => first | exact ⟨k + 1, by omega, by rw [HQ2.out], by go_num, HRK5, HWK5, HBK5, HBP5, HBW5⟩ | (repeat (apply Exists.intro); (refine And.intro ?_ ?_; rotate_left; (repeat' (first | exact rfl | apply And.intro)); exact ⟨k + 1, by omega, by rw [HQ2.out], by go_num, HRK5, HWK5, HBK5, HBP5, HBW5⟩))
              case measure => simp [intOf]; omega
          · obtain rfl : k = 5 := by omega
            rw [show ((5 : Nat) : Int) = (5 : Int) from rfl]
            have b0 : wr.cell? ⟨rb66, 0, none⟩ = some (.string (bstr a)) := by rw [HBK.out.cell 0]; rfl
            have k0 := HRK.out.cell 0
            have z0 := HRK.out.frozen 0
            have b1 : wr.cell? ⟨rb66, 1, none⟩ = some (.string (bstr (unDash b))) := by rw [HBK.out.cell 1]; rfl
            have k1 := HRK.out.cell 1
            have z1 := HRK.out.frozen 1
            have b2 : wr.cell? ⟨rb66, 2, none⟩ = some (.int .i64 (numR c)) := by rw [HBK.out.cell 2]; show some (Value.int .i64 (numR ((sg s).getD 2 []))) = _; rw [HES.out]; rfl
            have k2 := HRK.out.cell 2
            have z2 := HRK.out.frozen 2
            have b3 : wr.cell? ⟨rb66, 3, none⟩ = some (.int .i64 (numR d)) := by rw [HBK.out.cell 3]; show some (Value.int .i64 (numR ((sg s).getD 3 []))) = _; rw [HES.out]; rfl
            have k3 := HRK.out.cell 3
            have z3 := HRK.out.frozen 3
            have b4 : wr.cell? ⟨rb66, 4, none⟩ = some (.int .i64 (numR ee)) := by rw [HBK.out.cell 4]; show some (Value.int .i64 (numR ((sg s).getD 4 []))) = _; rw [HES.out]; rfl
            have k4 := HRK.out.cell 4
            have z4 := HRK.out.frozen 4
            have b5 : wr.cell? ⟨rb66, 5, none⟩ = some (.int .i64 (numR f)) := by rw [HBK.out.cell 5]; show some (Value.int .i64 (numR ((sg s).getD 5 []))) = _; rw [HES.out]; rfl
            have k5 := HRK.out.cell 5
            have z5 := HRK.out.frozen 5
            have b6 : wr.cell? ⟨rb66, 6, none⟩ = some (.int .i64 (numR gg)) := by rw [HBK.out.cell 6]; show some (Value.int .i64 (numR ((sg s).getD 6 []))) = _; rw [HES.out]; rfl
            have k6 := HRK.out.cell 6
            have z6 := HRK.out.frozen 6
            have b7 : wr.cell? ⟨rb66, 7, none⟩ = some (.int .i64 (kindOf h)) := by rw [HBK.out.cell 7]; rfl
            have k7 := HRK.out.cell 7
            have z7 := HRK.out.frozen 7
            have b8 : wr.cell? ⟨rb66, 8, none⟩ = some (.string (bstr (unDash i))) := by rw [HBK.out.cell 8]; rfl
            have k8 := HRK.out.cell 8
            have z8 := HRK.out.frozen 8
            simp only [List.getElem?_cons_zero, List.getElem?_cons_succ] at k0 k1 k2 k3 k4 k5 k6 k7 k8
            have HRK2 := Lib.hid ((((((((((HRK.out.set_ 0 (.string (bstr a))).set_ 1 (.string (bstr (unDash b)))).set_ 2 (.int .i64 (numR c))).set_ 3 (.int .i64 (numR d))).set_ 4 (.int .i64 (numR ee))).set_ 5 (.int .i64 (numR f))).set_ 6 (.int .i64 (numR gg))).set_ 7 (.int .i64 (kindOf h))).set_ 8 (.string (bstr (unDash i)))))
            have HBL2 := Lib.hid ((((((((((HBW.out.setCell (p := ⟨w.heap.size, 0, none⟩) (Nat.le_refl _) (.string (bstr a))).setCell (p := ⟨w.heap.size, 1, none⟩) (Nat.le_refl _) (.string (bstr (unDash b)))).setCell (p := ⟨w.heap.size, 2, none⟩) (Nat.le_refl _) (.int .i64 (numR c))).setCell (p := ⟨w.heap.size, 3, none⟩) (Nat.le_refl _) (.int .i64 (numR d))).setCell (p := ⟨w.heap.size, 4, none⟩) (Nat.le_refl _) (.int .i64 (numR ee))).setCell (p := ⟨w.heap.size, 5, none⟩) (Nat.le_refl _) (.int .i64 (numR f))).setCell (p := ⟨w.heap.size, 6, none⟩) (Nat.le_refl _) (.int .i64 (numR gg))).setCell (p := ⟨w.heap.size, 7, none⟩) (Nat.le_refl _) (.int .i64 (kindOf h))).setCell (p := ⟨w.heap.size, 8, none⟩) (Nat.le_refl _) (.string (bstr (unDash i)))))
            have HPO : Hid (∀ w', Below w.heap.size w w' → RlPost s w (.returned (.tuple #[.agg #[.string (bstr a), .string (bstr (unDash b)), .int .i64 (numR c), .int .i64 (numR d), .int .i64 (numR ee), .int .i64 (numR f), .int .i64 (numR gg), .int .i64 (kindOf h), .string (bstr (unDash i))], .bool (decide (0 < kindOf h) && allN (sg s) 5)])) w') := Lib.hid (fun w' hb => by
              rw [HES.out]
              exact RlPost.fin HOK.out HNO.out hb)
            generalize (decide (0 < kindOf h) && allN (sg s) 5) = q at *
            go_wp2_with fail
            refine bodyPost_ret (results_row2 rfl _ _ w.heap.size 28 [.string (bstr a), .string (bstr (unDash b)), .int .i64 (numR c), .int .i64 (numR d), .int .i64 (numR ee), .int .i64 (numR f), .int .i64 (numR gg), .int .i64 (kindOf h), .string (bstr (unDash i))] _ rfl HRK2.out Tryz.underlying28 rfl right_info) rfl ?_
            exact HPO.out _ HBL2.out
    · rw [if_pos (by rfl)]
      simp only [List.getElem_toArray, List.getElem_cons_succ, List.getElem_cons_zero]
      go_simp
      have BA69 := Lib.hid (HGq.out.alloc HGq.out.size (.cells #[.string ⟨#[]⟩, .string ⟨#[]⟩, .int .i64 0, .int .i64 0, .int .i64 0, .int .i64 0, .int .i64 0, .int .i64 0, .string ⟨#[]⟩] 28))
      refine hK.out _ _ (KEEP.out _ BA69.out) (fun hHeld => ?_)
      clear hK K
      try simp only [List.getElem_toArray, List.getElem_cons_succ, List.getElem_cons_zero, Act.put, List.setIfInBounds_toArray, List.set_cons_zero, List.set_cons_succ]
      have HA70 := Lib.hid (Blk.new wu 28 [.string ⟨#[]⟩, .string ⟨#[]⟩, .int .i64 0, .int .i64 0, .int .i64 0, .int .i64 0, .int .i64 0, .int .i64 0, .string ⟨#[]⟩])
      have hrb : w2.heap.size ≤ wu.heap.size := HGq.out.size
      generalize hwa : wu.alloc (.cells #[.string ⟨#[]⟩, .string ⟨#[]⟩, .int .i64 0, .int .i64 0, .int .i64 0, .int .i64 0, .int .i64 0, .int .i64 0, .string ⟨#[]⟩] 28) = wa68 at *
      generalize wu.heap.size = rb71 at *
      clear hwa
      refine wpAnyH_ready (rs := [7]) (by kernel_rfl) (by simp) ?_
      refine AllReadyH.cons rfl (fun K hK => ?_) AllReadyH.nil
      rw [if_pos (by rfl)]
      simp only [List.getElem_toArray, List.getElem_cons_succ, List.getElem_cons_zero]
      go_simp
      go_at_call 25
      refine (kindSplit_any wa68 (HG2.out.ext BA69.out)).mono ?_
      rintro e wk72 ⟨rfl, hwk⟩
      have hbk := (Below.refl wa68.heap.size wa68).alloc (Nat.le_refl _) (.cells (kindRow.map fun x => Value.string (bstr x)).toArray 9)
      have hkk := Blk.new wa68 9 (kindRow.map fun x => Value.string (bstr x))
      rw [← hwk] at hbk hkk
      clear hwk
      have BK73 := Lib.hid (ext_trans BA69.out hbk)
      have HK74 := Lib.hid hkk
      have HA76 := Lib.hid (HA70.out.same (same_below hbk) HA70.out.lt)
      clear hbk hkk
      generalize wa68.heap.size = kb75 at *
      show K _ wk72
      refine hK.out _ _ (KEEP.out _ BK73.out) (fun hHeld => ?_)
      clear hK K
      try simp only [List.getElem_toArray, List.getElem_cons_succ, List.getElem_cons_zero, Act.put, List.setIfInBounds_toArray, List.set_cons_zero, List.set_cons_succ]
      refine wpAnyH_ready (rs := [11]) (by kernel_rfl) (by simp) ?_
      refine AllReadyH.cons rfl (fun K hK => ?_) AllReadyH.nil
      rw [if_pos (by rfl)]
      simp only [List.getElem_toArray, List.getElem_cons_succ, List.getElem_cons_zero]
      go_simp
      go_at_call 32
      refine (kindIx_any kb75 h wk72 HK74.out).mono ?_
      rintro e wu ⟨rfl, hwu⟩
      subst hwu
      show K _ wu
      refine hK.out _ _ (KEEP.out _ BK73.out) (fun hHeld => ?_)
      clear hK K
      try simp only [List.getElem_toArray, List.getElem_cons_succ, List.getElem_cons_zero, Act.put, List.setIfInBounds_toArray, List.set_cons_zero, List.set_cons_succ]
      refine wpAnyH_take (i := 12) (v := ?_) rfl (by kernel_rfl) (by kernel_rfl) (by kernel_rfl) (fun _ _ _ h => h) (Or.inl ⟨by rfl, ?_⟩) (by assumption) ?_
      rotate_left
      · (intro w hSw; (try (obtain ⟨q0, q1, q7, q8⟩ := hSw)); go_simp; (try rw [if_neg (by omega)]); (try simp only [HWQ.out]); try with_reducible rfl)
      try simp only [List.getElem_toArray, List.getElem_cons_succ, List.getElem_cons_zero, Act.put, List.setIfInBounds_toArray, List.set_cons_zero, List.set_cons_succ]
      refine wpAnyH_ready (rs := [16]) (by kernel_rfl) (by simp) ?_
      refine AllReadyH.cons rfl (fun K hK => ?_) AllReadyH.nil
      rw [if_pos (by rfl)]
      simp only [List.getElem_toArray, List.getElem_cons_succ, List.getElem_cons_zero]
      go_simp
      go_at_call 36
      refine (bare_any i wu).mono ?_
      rintro e wu ⟨rfl, hwu⟩
      subst hwu
      show K _ wu
      refine hK.out _ _ (KEEP.out _ BK73.out) (fun hHeld => ?_)
      clear hK K
      try simp only [List.getElem_toArray, List.getElem_cons_succ, List.getElem_cons_zero, Act.put, List.setIfInBounds_toArray, List.set_cons_zero, List.set_cons_succ]
      refine wpAnyH_take (i := 17) (v := ?_) rfl (by kernel_rfl) (by kernel_rfl) (by kernel_rfl) (fun _ _ _ h => h) (Or.inl ⟨by rfl, ?_⟩) (by assumption) ?_
      rotate_left
      · (intro w hSw; (try (obtain ⟨q0, q1, q7, q8⟩ := hSw)); go_simp; (try rw [if_neg (by omega)]); (try simp only [HWQ.out]); try with_reducible rfl)
      try simp only [List.getElem_toArray, List.getElem_cons_succ, List.getElem_cons_zero, Act.put, List.setIfInBounds_toArray, List.set_cons_zero, List.set_cons_succ]
      have hr5 := HA76.out
      have c0 : _ = some (Value.string ⟨#[]⟩) := hr5.cell 0
      have y0 := hr5.frozen 0
      have c1 : _ = some (Value.string ⟨#[]⟩) := hr5.cell 1
      have y1 := hr5.frozen 1
      have c2 : _ = some (Value.int .i64 0) := hr5.cell 2
      have y2 := hr5.frozen 2
      have c3 : _ = some (Value.int .i64 0) := hr5.cell 3
      have y3 := hr5.frozen 3
      have c4 : _ = some (Value.int .i64 0) := hr5.cell 4
      have y4 := hr5.frozen 4
      have c5 : _ = some (Value.int .i64 0) := hr5.cell 5
      have y5 := hr5.frozen 5
      have c6 : _ = some (Value.int .i64 0) := hr5.cell 6
      have y6 := hr5.frozen 6
      have c7 : _ = some (Value.int .i64 0) := hr5.cell 7
      have y7 := hr5.frozen 7
      have c8 : _ = some (Value.string ⟨#[]⟩) := hr5.cell 8
      have y8 := hr5.frozen 8
      refine wpAnyH_ready (rs := [19]) (by kernel_rfl) (by simp) ?_
      refine AllReadyH.cons rfl (fun K hK => ?_) AllReadyH.nil
      rw [if_pos (by rfl)]
      simp only [List.getElem_toArray, List.getElem_cons_succ, List.getElem_cons_zero]
      go_simp
      refine hK.out _ _ (KEEP.out _ (((((((((BK73.out.setCell (p := ⟨rb71, 0, none⟩) hrb (.string (bstr a))).setCell (p := ⟨rb71, 1, none⟩) hrb (.string (bstr (unDash b)))).setCell (p := ⟨rb71, 2, none⟩) hrb (.int .i64 0)).setCell (p := ⟨rb71, 3, none⟩) hrb (.int .i64 0)).setCell (p := ⟨rb71, 4, none⟩) hrb (.int .i64 0)).setCell (p := ⟨rb71, 5, none⟩) hrb (.int .i64 0)).setCell (p := ⟨rb71, 6, none⟩) hrb (.int .i64 0)).setCell (p := ⟨rb71, 7, none⟩) hrb (.int .i64 (kindOf h))).setCell (p := ⟨rb71, 8, none⟩) hrb (.string (bstr (unDash i))))) (fun hHeld => ?_)
      clear hK K hHeld c0 y0 c1 y1 c2 y2 c3 y3 c4 y4 c5 y5 c6 y6 c7 y7 c8 y8
      try simp only [List.getElem_toArray, List.getElem_cons_succ, List.getElem_cons_zero, Act.put, List.setIfInBounds_toArray, List.set_cons_zero, List.set_cons_succ]
      refine wpAnyH_done (by kernel_rfl) ?_ _
      have HRZ := Lib.hid (((((((((hr5.set_ 0 (.string (bstr a))).set_ 1 (.string (bstr (unDash b)))).set_ 2 (.int .i64 0)).set_ 3 (.int .i64 0)).set_ 4 (.int .i64 0)).set_ 5 (.int .i64 0)).set_ 6 (.int .i64 0)).set_ 7 (.int .i64 (kindOf h))).set_ 8 (.string (bstr (unDash i))))
      have HBZ := Lib.hid (((((((((BK73.out.setCell (p := ⟨rb71, 0, none⟩) hrb (.string (bstr a))).setCell (p := ⟨rb71, 1, none⟩) hrb (.string (bstr (unDash b)))).setCell (p := ⟨rb71, 2, none⟩) hrb (.int .i64 0)).setCell (p := ⟨rb71, 3, none⟩) hrb (.int .i64 0)).setCell (p := ⟨rb71, 4, none⟩) hrb (.int .i64 0)).setCell (p := ⟨rb71, 5, none⟩) hrb (.int .i64 0)).setCell (p := ⟨rb71, 6, none⟩) hrb (.int .i64 0)).setCell (p := ⟨rb71, 7, none⟩) hrb (.int .i64 (kindOf h))).setCell (p := ⟨rb71, 8, none⟩) hrb (.string (bstr (unDash i))))
      clear hr5
      generalize hwz : (((((((((wu.setCell ⟨rb71, 0, none⟩ (.string (bstr a))).setCell ⟨rb71, 1, none⟩ (.string (bstr (unDash b)))).setCell ⟨rb71, 2, none⟩ (.int .i64 0)).setCell ⟨rb71, 3, none⟩ (.int .i64 0)).setCell ⟨rb71, 4, none⟩ (.int .i64 0)).setCell ⟨rb71, 5, none⟩ (.int .i64 0)).setCell ⟨rb71, 6, none⟩ (.int .i64 0)).setCell ⟨rb71, 7, none⟩ (.int .i64 (kindOf h))).setCell ⟨rb71, 8, none⟩ (.string (bstr (unDash i)))) = wz at *
      clear hwz
      have hrz := HRZ.out
      simp only [List.set_cons_zero, List.set_cons_succ] at hrz
      have HRQ := Lib.hid (HR1.out.same (same_below HBZ.out) HR1.out.lt)
      have HWZ := Lib.hid (HW1.out.same (same_below HBZ.out) HW1.out.lt)
      have HBW0 := Lib.hid (ext_trans HB1.out HBZ.out)
      have hne : w.heap.size ≠ rb71 := by have := HR1.out.lt; omega
      have hne1 : w.heap.size + 1 ≠ rb71 := by have := HW1.out.lt; omega
      have hrbw : w.heap.size ≤ rb71 := by have := HB1.out.size; omega
      have f7 : wz.cell? ⟨rb71, 7, none⟩ = some (.int .i64 (kindOf h)) := hrz.cell 7
      have hrlt := hrz.lt
      have hal := (Below.refl wz.heap.size wz).alloc (Nat.le_refl _) (.cells #[.pointer (some ⟨rb71, 2, none⟩), .pointer (some ⟨rb71, 3, none⟩), .pointer (some ⟨rb71, 4, none⟩), .pointer (some ⟨rb71, 5, none⟩), .pointer (some ⟨rb71, 6, none⟩)] 68)
      have hrl := hrz.same (same_below hal) hrz.lt
      have Hrb71 := Lib.hid hrl
      have HRL := Lib.hid (HRQ.out.same (same_below hal) HRQ.out.lt)
      have HWL := Lib.hid (HWZ.out.same (same_below hal) HWZ.out.lt)
      have HBL := Lib.hid (ext_trans HBW0.out hal)
      have HPB := Lib.hid (Blk.new wz 68 [.pointer (some ⟨rb71, 2, none⟩), .pointer (some ⟨rb71, 3, none⟩), .pointer (some ⟨rb71, 4, none⟩), .pointer (some ⟨rb71, 5, none⟩), .pointer (some ⟨rb71, 6, none⟩)])
      have hne2 : wz.heap.size ≠ rb71 := by omega
      clear hrz HRZ HBZ HR1 HW1 HB1 hal hrl HRQ HWZ HBW0 KEEP
      go_wp2_with fail
      clear f7 hrlt
      generalize wz.alloc (.cells #[.pointer (some ⟨rb71, 2, none⟩), .pointer (some ⟨rb71, 3, none⟩), .pointer (some ⟨rb71, 4, none⟩), .pointer (some ⟨rb71, 5, none⟩), .pointer (some ⟨rb71, 6, none⟩)] 68) = wl at *
      generalize wz.heap.size = pb at *
      go_loopw [6, 66] (fun v6 vi wr => ∃ k : Nat, k ≤ 5 ∧ v6 = .bool (decide (0 < kindOf h) && allN (sg s) k) ∧ vi = .int .i64 k ∧ Hid (Blk wr w.heap.size 28 [.string ⟨#[]⟩, .string ⟨#[]⟩, .int .i64 0, .int .i64 0, .int .i64 0, .int .i64 0, .int .i64 0, .int .i64 0, .string ⟨#[]⟩]) ∧ Hid (Blk wr (w.heap.size + 1) 9 ((sg s).map fun x => Value.string (bstr x))) ∧ Hid (Blk wr rb71 28 (nCells a (unDash b) (kindOf h) (unDash i) (fun j => numR ((sg s).getD (2 + j) [])) k)) ∧ Hid (Blk wr pb 68 [.pointer (some ⟨rb71, 2, none⟩), .pointer (some ⟨rb71, 3, none⟩), .pointer (some ⟨rb71, 4, none⟩), .pointer (some ⟨rb71, 5, none⟩), .pointer (some ⟨rb71, 6, none⟩)]) ∧ Hid (Below w.heap.size w wr)) (fun _ vi _ => 5 - (intOf vi).toNat)
      case atStart => exact ⟨0, by omega, by rw [show allN (sg s) 0 = true from rfl, Bool.and_true], rfl, HRL, HWL, Hrb71, HPB, HBL⟩
      case round =>
        obtain ⟨k, hk, rfl, rfl, HRK, HWK, HBK, HBP, HBW⟩ := hrel
        by_cases hlt : k < 5
        · have hlw : 2 + k < (sg s).length := by have := H9.out; omega
          have c0 : wr.cell? ⟨w.heap.size + 1, 2 + k, none⟩ = some (.string (bstr (sg s)[2 + k])) := by rw [HWK.out.cell (2 + k), List.getElem?_map, List.getElem?_eq_getElem hlw]; rfl
          have p0 : wr.cell? ⟨pb, k, none⟩ = some (.pointer (some ⟨rb71, 2 + k, none⟩)) := by
            rw [HBP.out.cell k]
            have : k = 0 ∨ k = 1 ∨ k = 2 ∨ k = 3 ∨ k = 4 := by omega
            rcases this with rfl | rfl | rfl | rfl | rfl <;> rfl
          have HLX := Lib.hid (HSL.out (sg s)[2 + k] (List.getElem_mem _))
          have HGD : (sg s).getD (2 + k) [] = (sg s)[2 + k] := by rw [List.getD_eq_getElem?_getD, List.getElem?_eq_getElem hlw]; rfl
          have HNS : Hid (∀ (g : Nat) (wq : World), Blk wq g 28 (nCells a (unDash b) (kindOf h) (unDash i) (fun j => numR ((sg s).getD (2 + j) [])) k) → Blk (wq.setCell ⟨g, 2 + k, none⟩ (.int .i64 (numR (sg s)[2 + k]))) g 28 (nCells a (unDash b) (kindOf h) (unDash i) (fun j => numR ((sg s).getD (2 + j) [])) (k + 1))) := Lib.hid (fun g wq hb => by
            have h1 := hb.set_ (2 + k) (.int .i64 (numR ((sg s).getD (2 + k) [])))
            rw [nCells_set (fun j => numR ((sg s).getD (2 + j) [])) hlt, HGD] at h1
            exact h1)
          have HNX : Hid (allN (sg s) (k + 1) = (allN (sg s) k && numB (sg s)[2 + k])) := Lib.hid (by rw [allN_succ, HGD])
          have HOLD : Hid (∃ v, (nCells a (unDash b) (kindOf h) (unDash i) (fun j => numR ((sg s).getD (2 + j) [])) k)[2 + k]? = some v) := Lib.hid (by
            have : k = 0 ∨ k = 1 ∨ k = 2 ∨ k = 3 ∨ k = 4 := by omega
            rcases this with rfl | rfl | rfl | rfl | rfl <;> exact ⟨_, rfl⟩)
          clear HGD
          generalize (sg s)[2 + k] = x at *
          have hk5 : (k : Int) < 5 := by omega
          have hk2 : (2 + (k : Int)).toNat = 2 + k := by omega
          have hk9 : 2 + (k : Int) < 9 := by omega
          go_wp2_with fail
          refine (hnumber_any x wr (by have := HLX.out; omega)).mono ?_
          rintro e w4 ⟨rfl, hb4⟩
          have HRK4 := Lib.hid (HRK.out.same (same_below hb4) HRK.out.lt)
          have HWK4 := Lib.hid (HWK.out.same (same_below hb4) HWK.out.lt)
          have HBK4 := Lib.hid (HBK.out.same (same_below hb4) HBK.out.lt)
          have HBP4 := Lib.hid (HBP.out.same (same_below hb4) HBP.out.lt)
          have HBW4 := Lib.hid (ext_trans HBW.out hb4)
          obtain ⟨vold, hvold⟩ := HOLD.out
          have d0 : w4.cell? ⟨rb71, 2 + k, none⟩ = some vold := (HBK4.out.cell (2 + k)).trans hvold
          have y0 := HBK4.out.frozen (2 + k)
          have HRK5 := Lib.hid (HRK4.out.same (set_same w4 (i := 2 + k) (v := .int .i64 (numR x)) (show w.heap.size ≠ rb71 from hne)) rfl)
          have HWK5 := Lib.hid (HWK4.out.same (set_same w4 (i := 2 + k) (v := .int .i64 (numR x)) (show w.heap.size + 1 ≠ rb71 from hne1)) rfl)
          have HBP5 := Lib.hid (HBP4.out.same (set_same w4 (i := 2 + k) (v := .int .i64 (numR x)) (show pb ≠ rb71 from hne2)) rfl)
          have HBK5 := Lib.hid (HNS.out rb71 w4 HBK4.out)
          have HBW5 := Lib.hid (HBW4.out.setCell (p := ⟨rb71, 2 + k, none⟩) hrbw (.int .i64 (numR x)))
          clear hb4 HRK HWK HBK HBP HBW HRK4 HWK4 HBK4 HBP4 HBW4 HNS HOLD c0 p0 hvold
          have HQE : Hid ((decide (0 < kindOf h) && allN (sg s) (k + 1)) = ((decide (0 < kindOf h) && allN (sg s) k) && numB x)) := Lib.hid (by rw [HNX.out, Bool.and_assoc])
          generalize (decide (0 < kindOf h) && allN (sg s) k) = q at *
          generalize numB x = nb at *
          cases q with
          | true =>
            have HQ2 : Hid ((decide (0 < kindOf h) && allN (sg s) (k + 1)) = nb) := Lib.hid (by rw [HQE.out, Bool.true_and])
            clear HQE HNX
            go_wp2_with fail
            go_roundw
            case rel => first | exact ⟨k + 1, by omega, by rw [HQ2.out], by go_num, HRK5, HWK5, HBK5, HBP5, HBW5⟩ | (repeat (apply Exists.intro); (refine And.intro ?_ ?_; rotate_left; (repeat' (first | exact rfl | apply And.intro)); exact ⟨k + 1, by omega, by rw [HQ2.out], by go_num, HRK5, HWK5, HBK5, HBP5, HBW5⟩))
            case measure => simp [intOf]; omega
          | false =>
            have HQ2 : Hid ((decide (0 < kindOf h) && allN (sg s) (k + 1)) = false) := Lib.hid (by rw [HQE.out, Bool.false_and])
            clear HQE HNX
            go_wp2_with fail
            go_roundw
            case rel => first | exact ⟨k + 1, by omega, by rw [HQ2.out], by go_num, HRK5, HWK5, HBK5, HBP5, HBW5⟩ | (repeat (apply Exists.intro); (refine And.intro ?_ ?_; rotate_left; (repeat' (first | exact rfl | apply And.intro)); exact ⟨k + 1, by omega, by rw [HQ2.out], by go_num, HRK5, HWK5, HBK5, HBP5, HBW5⟩))
            case measure => simp [intOf]; omega
        · obtain rfl : k = 5 := by omega
          rw [show ((5 : Nat) : Int) = (5 : Int) from rfl]
          have b0 : wr.cell? ⟨rb71, 0, none⟩ = some (.string (bstr a)) := by rw [HBK.out.cell 0]; rfl
          have k0 := HRK.out.cell 0
          have z0 := HRK.out.frozen 0
          have b1 : wr.cell? ⟨rb71, 1, none⟩ = some (.string (bstr (unDash b))) := by rw [HBK.out.cell 1]; rfl
          have k1 := HRK.out.cell 1
          have z1 := HRK.out.frozen 1
          have b2 : wr.cell? ⟨rb71, 2, none⟩ = some (.int .i64 (numR c)) := by rw [HBK.out.cell 2]; show some (Value.int .i64 (numR ((sg s).getD 2 []))) = _; rw [HES.out]; rfl
          have k2 := HRK.out.cell 2
          have z2 := HRK.out.frozen 2
          have b3 : wr.cell? ⟨rb71, 3, none⟩ = some (.int .i64 (numR d)) := by rw [HBK.out.cell 3]; show some (Value.int .i64 (numR ((sg s).getD 3 []))) = _; rw [HES.out]; rfl
          have k3 := HRK.out.cell 3
          have z3 := HRK.out.frozen 3
          have b4 : wr.cell? ⟨rb71, 4, none⟩ = some (.int .i64 (numR ee)) := by rw [HBK.out.cell 4]; show some (Value.int .i64 (numR ((sg s).getD 4 []))) = _; rw [HES.out]; rfl
          have k4 := HRK.out.cell 4
          have z4 := HRK.out.frozen 4
          have b5 : wr.cell? ⟨rb71, 5, none⟩ = some (.int .i64 (numR f)) := by rw [HBK.out.cell 5]; show some (Value.int .i64 (numR ((sg s).getD 5 []))) = _; rw [HES.out]; rfl
          have k5 := HRK.out.cell 5
          have z5 := HRK.out.frozen 5
          have b6 : wr.cell? ⟨rb71, 6, none⟩ = some (.int .i64 (numR gg)) := by rw [HBK.out.cell 6]; show some (Value.int .i64 (numR ((sg s).getD 6 []))) = _; rw [HES.out]; rfl
          have k6 := HRK.out.cell 6
          have z6 := HRK.out.frozen 6
          have b7 : wr.cell? ⟨rb71, 7, none⟩ = some (.int .i64 (kindOf h)) := by rw [HBK.out.cell 7]; rfl
          have k7 := HRK.out.cell 7
          have z7 := HRK.out.frozen 7
          have b8 : wr.cell? ⟨rb71, 8, none⟩ = some (.string (bstr (unDash i))) := by rw [HBK.out.cell 8]; rfl
          have k8 := HRK.out.cell 8
          have z8 := HRK.out.frozen 8
          simp only [List.getElem?_cons_zero, List.getElem?_cons_succ] at k0 k1 k2 k3 k4 k5 k6 k7 k8
          have HRK2 := Lib.hid ((((((((((HRK.out.set_ 0 (.string (bstr a))).set_ 1 (.string (bstr (unDash b)))).set_ 2 (.int .i64 (numR c))).set_ 3 (.int .i64 (numR d))).set_ 4 (.int .i64 (numR ee))).set_ 5 (.int .i64 (numR f))).set_ 6 (.int .i64 (numR gg))).set_ 7 (.int .i64 (kindOf h))).set_ 8 (.string (bstr (unDash i)))))
          have HBL2 := Lib.hid ((((((((((HBW.out.setCell (p := ⟨w.heap.size, 0, none⟩) (Nat.le_refl _) (.string (bstr a))).setCell (p := ⟨w.heap.size, 1, none⟩) (Nat.le_refl _) (.string (bstr (unDash b)))).setCell (p := ⟨w.heap.size, 2, none⟩) (Nat.le_refl _) (.int .i64 (numR c))).setCell (p := ⟨w.heap.size, 3, none⟩) (Nat.le_refl _) (.int .i64 (numR d))).setCell (p := ⟨w.heap.size, 4, none⟩) (Nat.le_refl _) (.int .i64 (numR ee))).setCell (p := ⟨w.heap.size, 5, none⟩) (Nat.le_refl _) (.int .i64 (numR f))).setCell (p := ⟨w.heap.size, 6, none⟩) (Nat.le_refl _) (.int .i64 (numR gg))).setCell (p := ⟨w.heap.size, 7, none⟩) (Nat.le_refl _) (.int .i64 (kindOf h))).setCell (p := ⟨w.heap.size, 8, none⟩) (Nat.le_refl _) (.string (bstr (unDash i)))))
          have HPO : Hid (∀ w', Below w.heap.size w w' → RlPost s w (.returned (.tuple #[.agg #[.string (bstr a), .string (bstr (unDash b)), .int .i64 (numR c), .int .i64 (numR d), .int .i64 (numR ee), .int .i64 (numR f), .int .i64 (numR gg), .int .i64 (kindOf h), .string (bstr (unDash i))], .bool (decide (0 < kindOf h) && allN (sg s) 5)])) w') := Lib.hid (fun w' hb => by
            rw [HES.out]
            exact RlPost.fin HOK.out HNO.out hb)
          generalize (decide (0 < kindOf h) && allN (sg s) 5) = q at *
          go_wp2_with fail
          refine bodyPost_ret (results_row2 rfl _ _ w.heap.size 28 [.string (bstr a), .string (bstr (unDash b)), .int .i64 (numR c), .int .i64 (numR d), .int .i64 (numR ee), .int .i64 (numR f), .int .i64 (numR gg), .int .i64 (kindOf h), .string (bstr (unDash i))] _ rfl HRK2.out Tryz.underlying28 rfl right_info) rfl ?_
          exact HPO.out _ HBL2.out
  · rw [if_pos (by rfl)]
    simp only [List.getElem_toArray, List.getElem_cons_succ, List.getElem_cons_zero]
    go_simp
    have BA78 := Lib.hid (HGq.out.alloc HGq.out.size (.cells #[.string ⟨#[]⟩, .string ⟨#[]⟩, .int .i64 0, .int .i64 0, .int .i64 0, .int .i64 0, .int .i64 0, .int .i64 0, .string ⟨#[]⟩] 28))
    refine hK.out _ _ (KEEP.out _ BA78.out) (fun hHeld => ?_)
    clear hK K
    try simp only [List.getElem_toArray, List.getElem_cons_succ, List.getElem_cons_zero, Act.put, List.setIfInBounds_toArray, List.set_cons_zero, List.set_cons_succ]
    have HA79 := Lib.hid (Blk.new wq 28 [.string ⟨#[]⟩, .string ⟨#[]⟩, .int .i64 0, .int .i64 0, .int .i64 0, .int .i64 0, .int .i64 0, .int .i64 0, .string ⟨#[]⟩])
    have hrb : w2.heap.size ≤ wq.heap.size := HGq.out.size
    generalize hwa : wq.alloc (.cells #[.string ⟨#[]⟩, .string ⟨#[]⟩, .int .i64 0, .int .i64 0, .int .i64 0, .int .i64 0, .int .i64 0, .int .i64 0, .string ⟨#[]⟩] 28) = wa77 at *
    generalize wq.heap.size = rb80 at *
    clear hwa
    refine wpAnyH_ready (rs := [6]) (by kernel_rfl) (by simp) ?_
    refine AllReadyH.cons rfl (fun K hK => ?_) AllReadyH.nil
    rw [if_pos (by rfl)]
    simp only [List.getElem_toArray, List.getElem_cons_succ, List.getElem_cons_zero]
    go_simp
    go_at_call 36
    refine (bare_any b wa77).mono ?_
    rintro e wu ⟨rfl, hwu⟩
    subst hwu
    show K _ wu
    refine hK.out _ _ (KEEP.out _ BA78.out) (fun hHeld => ?_)
    clear hK K
    try simp only [List.getElem_toArray, List.getElem_cons_succ, List.getElem_cons_zero, Act.put, List.setIfInBounds_toArray, List.set_cons_zero, List.set_cons_succ]
    refine wpAnyH_ready (rs := [7]) (by kernel_rfl) (by simp) ?_
    refine AllReadyH.cons rfl (fun K hK => ?_) AllReadyH.nil
    rw [if_pos (by rfl)]
    simp only [List.getElem_toArray, List.getElem_cons_succ, List.getElem_cons_zero]
    go_simp
    go_at_call 25
    refine (kindSplit_any wu (HG2.out.ext BA78.out)).mono ?_
    rintro e wk81 ⟨rfl, hwk⟩
    have hbk := (Below.refl wu.heap.size wu).alloc (Nat.le_refl _) (.cells (kindRow.map fun x => Value.string (bstr x)).toArray 9)
    have hkk := Blk.new wu 9 (kindRow.map fun x => Value.string (bstr x))
    rw [← hwk] at hbk hkk
    clear hwk
    have BK82 := Lib.hid (ext_trans BA78.out hbk)
    have HK83 := Lib.hid hkk
    have HA85 := Lib.hid (HA79.out.same (same_below hbk) HA79.out.lt)
    clear hbk hkk
    generalize wu.heap.size = kb84 at *
    show K _ wk81
    refine hK.out _ _ (KEEP.out _ BK82.out) (fun hHeld => ?_)
    clear hK K
    try simp only [List.getElem_toArray, List.getElem_cons_succ, List.getElem_cons_zero, Act.put, List.setIfInBounds_toArray, List.set_cons_zero, List.set_cons_succ]
    refine wpAnyH_ready (rs := [11]) (by kernel_rfl) (by simp) ?_
    refine AllReadyH.cons rfl (fun K hK => ?_) AllReadyH.nil
    rw [if_pos (by rfl)]
    simp only [List.getElem_toArray, List.getElem_cons_succ, List.getElem_cons_zero]
    go_simp
    go_at_call 32
    refine (kindIx_any kb84 h wk81 HK83.out).mono ?_
    rintro e wu ⟨rfl, hwu⟩
    subst hwu
    show K _ wu
    refine hK.out _ _ (KEEP.out _ BK82.out) (fun hHeld => ?_)
    clear hK K
    try simp only [List.getElem_toArray, List.getElem_cons_succ, List.getElem_cons_zero, Act.put, List.setIfInBounds_toArray, List.set_cons_zero, List.set_cons_succ]
    refine wpAnyH_take (i := 12) (v := ?_) rfl (by kernel_rfl) (by kernel_rfl) (by kernel_rfl) (fun _ _ _ h => h) (Or.inl ⟨by rfl, ?_⟩) (by assumption) ?_
    rotate_left
    · (intro w hSw; (try (obtain ⟨q0, q1, q7, q8⟩ := hSw)); go_simp; (try rw [if_neg (by omega)]); (try simp only [HWQ.out]); try with_reducible rfl)
    try simp only [List.getElem_toArray, List.getElem_cons_succ, List.getElem_cons_zero, Act.put, List.setIfInBounds_toArray, List.set_cons_zero, List.set_cons_succ]
    refine wpAnyH_ready (rs := [16]) (by kernel_rfl) (by simp) ?_
    refine AllReadyH.cons rfl (fun K hK => ?_) AllReadyH.nil
    rw [if_pos (by rfl)]
    simp only [List.getElem_toArray, List.getElem_cons_succ, List.getElem_cons_zero]
    go_simp
    go_at_call 36
    refine (bare_any i wu).mono ?_
    rintro e wu ⟨rfl, hwu⟩
    subst hwu
    show K _ wu
    refine hK.out _ _ (KEEP.out _ BK82.out) (fun hHeld => ?_)
    clear hK K
    try simp only [List.getElem_toArray, List.getElem_cons_succ, List.getElem_cons_zero, Act.put, List.setIfInBounds_toArray, List.set_cons_zero, List.set_cons_succ]
    refine wpAnyH_take (i := 17) (v := ?_) rfl (by kernel_rfl) (by kernel_rfl) (by kernel_rfl) (fun _ _ _ h => h) (Or.inl ⟨by rfl, ?_⟩) (by assumption) ?_
    rotate_left
    · (intro w hSw; (try (obtain ⟨q0, q1, q7, q8⟩ := hSw)); go_simp; (try rw [if_neg (by omega)]); (try simp only [HWQ.out]); try with_reducible rfl)
    try simp only [List.getElem_toArray, List.getElem_cons_succ, List.getElem_cons_zero, Act.put, List.setIfInBounds_toArray, List.set_cons_zero, List.set_cons_succ]
    have hr5 := HA85.out
    have c0 : _ = some (Value.string ⟨#[]⟩) := hr5.cell 0
    have y0 := hr5.frozen 0
    have c1 : _ = some (Value.string ⟨#[]⟩) := hr5.cell 1
    have y1 := hr5.frozen 1
    have c2 : _ = some (Value.int .i64 0) := hr5.cell 2
    have y2 := hr5.frozen 2
    have c3 : _ = some (Value.int .i64 0) := hr5.cell 3
    have y3 := hr5.frozen 3
    have c4 : _ = some (Value.int .i64 0) := hr5.cell 4
    have y4 := hr5.frozen 4
    have c5 : _ = some (Value.int .i64 0) := hr5.cell 5
    have y5 := hr5.frozen 5
    have c6 : _ = some (Value.int .i64 0) := hr5.cell 6
    have y6 := hr5.frozen 6
    have c7 : _ = some (Value.int .i64 0) := hr5.cell 7
    have y7 := hr5.frozen 7
    have c8 : _ = some (Value.string ⟨#[]⟩) := hr5.cell 8
    have y8 := hr5.frozen 8
    refine wpAnyH_ready (rs := [19]) (by kernel_rfl) (by simp) ?_
    refine AllReadyH.cons rfl (fun K hK => ?_) AllReadyH.nil
    rw [if_pos (by rfl)]
    simp only [List.getElem_toArray, List.getElem_cons_succ, List.getElem_cons_zero]
    go_simp
    refine hK.out _ _ (KEEP.out _ (((((((((BK82.out.setCell (p := ⟨rb80, 0, none⟩) hrb (.string (bstr a))).setCell (p := ⟨rb80, 1, none⟩) hrb (.string (bstr (unDash b)))).setCell (p := ⟨rb80, 2, none⟩) hrb (.int .i64 0)).setCell (p := ⟨rb80, 3, none⟩) hrb (.int .i64 0)).setCell (p := ⟨rb80, 4, none⟩) hrb (.int .i64 0)).setCell (p := ⟨rb80, 5, none⟩) hrb (.int .i64 0)).setCell (p := ⟨rb80, 6, none⟩) hrb (.int .i64 0)).setCell (p := ⟨rb80, 7, none⟩) hrb (.int .i64 (kindOf h))).setCell (p := ⟨rb80, 8, none⟩) hrb (.string (bstr (unDash i))))) (fun hHeld => ?_)
    clear hK K hHeld c0 y0 c1 y1 c2 y2 c3 y3 c4 y4 c5 y5 c6 y6 c7 y7 c8 y8
    try simp only [List.getElem_toArray, List.getElem_cons_succ, List.getElem_cons_zero, Act.put, List.setIfInBounds_toArray, List.set_cons_zero, List.set_cons_succ]
    refine wpAnyH_done (by kernel_rfl) ?_ _
    have HRZ := Lib.hid (((((((((hr5.set_ 0 (.string (bstr a))).set_ 1 (.string (bstr (unDash b)))).set_ 2 (.int .i64 0)).set_ 3 (.int .i64 0)).set_ 4 (.int .i64 0)).set_ 5 (.int .i64 0)).set_ 6 (.int .i64 0)).set_ 7 (.int .i64 (kindOf h))).set_ 8 (.string (bstr (unDash i))))
    have HBZ := Lib.hid (((((((((BK82.out.setCell (p := ⟨rb80, 0, none⟩) hrb (.string (bstr a))).setCell (p := ⟨rb80, 1, none⟩) hrb (.string (bstr (unDash b)))).setCell (p := ⟨rb80, 2, none⟩) hrb (.int .i64 0)).setCell (p := ⟨rb80, 3, none⟩) hrb (.int .i64 0)).setCell (p := ⟨rb80, 4, none⟩) hrb (.int .i64 0)).setCell (p := ⟨rb80, 5, none⟩) hrb (.int .i64 0)).setCell (p := ⟨rb80, 6, none⟩) hrb (.int .i64 0)).setCell (p := ⟨rb80, 7, none⟩) hrb (.int .i64 (kindOf h))).setCell (p := ⟨rb80, 8, none⟩) hrb (.string (bstr (unDash i))))
    clear hr5
    generalize hwz : (((((((((wu.setCell ⟨rb80, 0, none⟩ (.string (bstr a))).setCell ⟨rb80, 1, none⟩ (.string (bstr (unDash b)))).setCell ⟨rb80, 2, none⟩ (.int .i64 0)).setCell ⟨rb80, 3, none⟩ (.int .i64 0)).setCell ⟨rb80, 4, none⟩ (.int .i64 0)).setCell ⟨rb80, 5, none⟩ (.int .i64 0)).setCell ⟨rb80, 6, none⟩ (.int .i64 0)).setCell ⟨rb80, 7, none⟩ (.int .i64 (kindOf h))).setCell ⟨rb80, 8, none⟩ (.string (bstr (unDash i)))) = wz at *
    clear hwz
    have hrz := HRZ.out
    simp only [List.set_cons_zero, List.set_cons_succ] at hrz
    have HRQ := Lib.hid (HR1.out.same (same_below HBZ.out) HR1.out.lt)
    have HWZ := Lib.hid (HW1.out.same (same_below HBZ.out) HW1.out.lt)
    have HBW0 := Lib.hid (ext_trans HB1.out HBZ.out)
    have hne : w.heap.size ≠ rb80 := by have := HR1.out.lt; omega
    have hne1 : w.heap.size + 1 ≠ rb80 := by have := HW1.out.lt; omega
    have hrbw : w.heap.size ≤ rb80 := by have := HB1.out.size; omega
    have f7 : wz.cell? ⟨rb80, 7, none⟩ = some (.int .i64 (kindOf h)) := hrz.cell 7
    have hrlt := hrz.lt
    have hal := (Below.refl wz.heap.size wz).alloc (Nat.le_refl _) (.cells #[.pointer (some ⟨rb80, 2, none⟩), .pointer (some ⟨rb80, 3, none⟩), .pointer (some ⟨rb80, 4, none⟩), .pointer (some ⟨rb80, 5, none⟩), .pointer (some ⟨rb80, 6, none⟩)] 68)
    have hrl := hrz.same (same_below hal) hrz.lt
    have Hrb80 := Lib.hid hrl
    have HRL := Lib.hid (HRQ.out.same (same_below hal) HRQ.out.lt)
    have HWL := Lib.hid (HWZ.out.same (same_below hal) HWZ.out.lt)
    have HBL := Lib.hid (ext_trans HBW0.out hal)
    have HPB := Lib.hid (Blk.new wz 68 [.pointer (some ⟨rb80, 2, none⟩), .pointer (some ⟨rb80, 3, none⟩), .pointer (some ⟨rb80, 4, none⟩), .pointer (some ⟨rb80, 5, none⟩), .pointer (some ⟨rb80, 6, none⟩)])
    have hne2 : wz.heap.size ≠ rb80 := by omega
    clear hrz HRZ HBZ HR1 HW1 HB1 hal hrl HRQ HWZ HBW0 KEEP
    go_wp2_with fail
    clear f7 hrlt
    generalize wz.alloc (.cells #[.pointer (some ⟨rb80, 2, none⟩), .pointer (some ⟨rb80, 3, none⟩), .pointer (some ⟨rb80, 4, none⟩), .pointer (some ⟨rb80, 5, none⟩), .pointer (some ⟨rb80, 6, none⟩)] 68) = wl at *
    generalize wz.heap.size = pb at *
    go_loopw [6, 66] (fun v6 vi wr => ∃ k : Nat, k ≤ 5 ∧ v6 = .bool (decide (0 < kindOf h) && allN (sg s) k) ∧ vi = .int .i64 k ∧ Hid (Blk wr w.heap.size 28 [.string ⟨#[]⟩, .string ⟨#[]⟩, .int .i64 0, .int .i64 0, .int .i64 0, .int .i64 0, .int .i64 0, .int .i64 0, .string ⟨#[]⟩]) ∧ Hid (Blk wr (w.heap.size + 1) 9 ((sg s).map fun x => Value.string (bstr x))) ∧ Hid (Blk wr rb80 28 (nCells a (unDash b) (kindOf h) (unDash i) (fun j => numR ((sg s).getD (2 + j) [])) k)) ∧ Hid (Blk wr pb 68 [.pointer (some ⟨rb80, 2, none⟩), .pointer (some ⟨rb80, 3, none⟩), .pointer (some ⟨rb80, 4, none⟩), .pointer (some ⟨rb80, 5, none⟩), .pointer (some ⟨rb80, 6, none⟩)]) ∧ Hid (Below w.heap.size w wr)) (fun _ vi _ => 5 - (intOf vi).toNat)
    case atStart => exact ⟨0, by omega, by rw [show allN (sg s) 0 = true from rfl, Bool.and_true], rfl, HRL, HWL, Hrb80, HPB, HBL⟩
    case round =>
      obtain ⟨k, hk, rfl, rfl, HRK, HWK, HBK, HBP, HBW⟩ := hrel
      by_cases hlt : k < 5
      · have hlw : 2 + k < (sg s).length := by have := H9.out; omega
        have c0 : wr.cell? ⟨w.heap.size + 1, 2 + k, none⟩ = some (.string (bstr (sg s)[2 + k])) := by rw [HWK.out.cell (2 + k), List.getElem?_map, List.getElem?_eq_getElem hlw]; rfl
        have p0 : wr.cell? ⟨pb, k, none⟩ = some (.pointer (some ⟨rb80, 2 + k, none⟩)) := by
          rw [HBP.out.cell k]
          have : k = 0 ∨ k = 1 ∨ k = 2 ∨ k = 3 ∨ k = 4 := by omega
          rcases this with rfl | rfl | rfl | rfl | rfl <;> rfl
        have HLX := Lib.hid (HSL.out (sg s)[2 + k] (List.getElem_mem _))
        have HGD : (sg s).getD (2 + k) [] = (sg s)[2 + k] := by rw [List.getD_eq_getElem?_getD, List.getElem?_eq_getElem hlw]; rfl
        have HNS : Hid (∀ (g : Nat) (wq : World), Blk wq g 28 (nCells a (unDash b) (kindOf h) (unDash i) (fun j => numR ((sg s).getD (2 + j) [])) k) → Blk (wq.setCell ⟨g, 2 + k, none⟩ (.int .i64 (numR (sg s)[2 + k]))) g 28 (nCells a (unDash b) (kindOf h) (unDash i) (fun j => numR ((sg s).getD (2 + j) [])) (k + 1))) := Lib.hid (fun g wq hb => by
          have h1 := hb.set_ (2 + k) (.int .i64 (numR ((sg s).getD (2 + k) [])))
          rw [nCells_set (fun j => numR ((sg s).getD (2 + j) [])) hlt, HGD] at h1
          exact h1)
        have HNX : Hid (allN (sg s) (k + 1) = (allN (sg s) k && numB (sg s)[2 + k])) := Lib.hid (by rw [allN_succ, HGD])
        have HOLD : Hid (∃ v, (nCells a (unDash b) (kindOf h) (unDash i) (fun j => numR ((sg s).getD (2 + j) [])) k)[2 + k]? = some v) := Lib.hid (by
          have : k = 0 ∨ k = 1 ∨ k = 2 ∨ k = 3 ∨ k = 4 := by omega
          rcases this with rfl | rfl | rfl | rfl | rfl <;> exact ⟨_, rfl⟩)
        clear HGD
        generalize (sg s)[2 + k] = x at *
        have hk5 : (k : Int) < 5 := by omega
        have hk2 : (2 + (k : Int)).toNat = 2 + k := by omega
        have hk9 : 2 + (k : Int) < 9 := by omega
        go_wp2_with fail
        refine (hnumber_any x wr (by have := HLX.out; omega)).mono ?_
        rintro e w4 ⟨rfl, hb4⟩
        have HRK4 := Lib.hid (HRK.out.same (same_below hb4) HRK.out.lt)
        have HWK4 := Lib.hid (HWK.out.same (same_below hb4) HWK.out.lt)
        have HBK4 := Lib.hid (HBK.out.same (same_below hb4) HBK.out.lt)
        have HBP4 := Lib.hid (HBP.out.same (same_below hb4) HBP.out.lt)
        have HBW4 := Lib.hid (ext_trans HBW.out hb4)
        obtain ⟨vold, hvold⟩ := HOLD.out
        have d0 : w4.cell? ⟨rb80, 2 + k, none⟩ = some vold := (HBK4.out.cell (2 + k)).trans hvold
        have y0 := HBK4.out.frozen (2 + k)
        have HRK5 := Lib.hid (HRK4.out.same (set_same w4 (i := 2 + k) (v := .int .i64 (numR x)) (show w.heap.size ≠ rb80 from hne)) rfl)
        have HWK5 := Lib.hid (HWK4.out.same (set_same w4 (i := 2 + k) (v := .int .i64 (numR x)) (show w.heap.size + 1 ≠ rb80 from hne1)) rfl)
        have HBP5 := Lib.hid (HBP4.out.same (set_same w4 (i := 2 + k) (v := .int .i64 (numR x)) (show pb ≠ rb80 from hne2)) rfl)
        have HBK5 := Lib.hid (HNS.out rb80 w4 HBK4.out)
        have HBW5 := Lib.hid (HBW4.out.setCell (p := ⟨rb80, 2 + k, none⟩) hrbw (.int .i64 (numR x)))
        clear hb4 HRK HWK HBK HBP HBW HRK4 HWK4 HBK4 HBP4 HBW4 HNS HOLD c0 p0 hvold
        have HQE : Hid ((decide (0 < kindOf h) && allN (sg s) (k + 1)) = ((decide (0 < kindOf h) && allN (sg s) k) && numB x)) := Lib.hid (by rw [HNX.out, Bool.and_assoc])
        generalize (decide (0 < kindOf h) && allN (sg s) k) = q at *
        generalize numB x = nb at *
        cases q with
        | true =>
          have HQ2 : Hid ((decide (0 < kindOf h) && allN (sg s) (k + 1)) = nb) := Lib.hid (by rw [HQE.out, Bool.true_and])
          clear HQE HNX
          go_wp2_with fail
          go_roundw
          case rel => first | exact ⟨k + 1, by omega, by rw [HQ2.out], by go_num, HRK5, HWK5, HBK5, HBP5, HBW5⟩ | (repeat (apply Exists.intro); (refine And.intro ?_ ?_; rotate_left; (repeat' (first | exact rfl | apply And.intro)); exact ⟨k + 1, by omega, by rw [HQ2.out], by go_num, HRK5, HWK5, HBK5, HBP5, HBW5⟩))
          case measure => simp [intOf]; omega
        | false =>
          have HQ2 : Hid ((decide (0 < kindOf h) && allN (sg s) (k + 1)) = false) := Lib.hid (by rw [HQE.out, Bool.false_and])
          clear HQE HNX
          go_wp2_with fail
          go_roundw
          case rel => first | exact ⟨k + 1, by omega, by rw [HQ2.out], by go_num, HRK5, HWK5, HBK5, HBP5, HBW5⟩ | (repeat (apply Exists.intro); (refine And.intro ?_ ?_; rotate_left; (repeat' (first | exact rfl | apply And.intro)); exact ⟨k + 1, by omega, by rw [HQ2.out], by go_num, HRK5, HWK5, HBK5, HBP5, HBW5⟩))
          case measure => simp [intOf]; omega
      · obtain rfl : k = 5 := by omega
        rw [show ((5 : Nat) : Int) = (5 : Int) from rfl]
        have b0 : wr.cell? ⟨rb80, 0, none⟩ = some (.string (bstr a)) := by rw [HBK.out.cell 0]; rfl
        have k0 := HRK.out.cell 0
        have z0 := HRK.out.frozen 0
        have b1 : wr.cell? ⟨rb80, 1, none⟩ = some (.string (bstr (unDash b))) := by rw [HBK.out.cell 1]; rfl
        have k1 := HRK.out.cell 1
        have z1 := HRK.out.frozen 1
        have b2 : wr.cell? ⟨rb80, 2, none⟩ = some (.int .i64 (numR c)) := by rw [HBK.out.cell 2]; show some (Value.int .i64 (numR ((sg s).getD 2 []))) = _; rw [HES.out]; rfl
        have k2 := HRK.out.cell 2
        have z2 := HRK.out.frozen 2
        have b3 : wr.cell? ⟨rb80, 3, none⟩ = some (.int .i64 (numR d)) := by rw [HBK.out.cell 3]; show some (Value.int .i64 (numR ((sg s).getD 3 []))) = _; rw [HES.out]; rfl
        have k3 := HRK.out.cell 3
        have z3 := HRK.out.frozen 3
        have b4 : wr.cell? ⟨rb80, 4, none⟩ = some (.int .i64 (numR ee)) := by rw [HBK.out.cell 4]; show some (Value.int .i64 (numR ((sg s).getD 4 []))) = _; rw [HES.out]; rfl
        have k4 := HRK.out.cell 4
        have z4 := HRK.out.frozen 4
        have b5 : wr.cell? ⟨rb80, 5, none⟩ = some (.int .i64 (numR f)) := by rw [HBK.out.cell 5]; show some (Value.int .i64 (numR ((sg s).getD 5 []))) = _; rw [HES.out]; rfl
        have k5 := HRK.out.cell 5
        have z5 := HRK.out.frozen 5
        have b6 : wr.cell? ⟨rb80, 6, none⟩ = some (.int .i64 (numR gg)) := by rw [HBK.out.cell 6]; show some (Value.int .i64 (numR ((sg s).getD 6 []))) = _; rw [HES.out]; rfl
        have k6 := HRK.out.cell 6
        have z6 := HRK.out.frozen 6
        have b7 : wr.cell? ⟨rb80, 7, none⟩ = some (.int .i64 (kindOf h)) := by rw [HBK.out.cell 7]; rfl
        have k7 := HRK.out.cell 7
        have z7 := HRK.out.frozen 7
        have b8 : wr.cell? ⟨rb80, 8, none⟩ = some (.string (bstr (unDash i))) := by rw [HBK.out.cell 8]; rfl
        have k8 := HRK.out.cell 8
        have z8 := HRK.out.frozen 8
        simp only [List.getElem?_cons_zero, List.getElem?_cons_succ] at k0 k1 k2 k3 k4 k5 k6 k7 k8
        have HRK2 := Lib.hid ((((((((((HRK.out.set_ 0 (.string (bstr a))).set_ 1 (.string (bstr (unDash b)))).set_ 2 (.int .i64 (numR c))).set_ 3 (.int .i64 (numR d))).set_ 4 (.int .i64 (numR ee))).set_ 5 (.int .i64 (numR f))).set_ 6 (.int .i64 (numR gg))).set_ 7 (.int .i64 (kindOf h))).set_ 8 (.string (bstr (unDash i)))))
        have HBL2 := Lib.hid ((((((((((HBW.out.setCell (p := ⟨w.heap.size, 0, none⟩) (Nat.le_refl _) (.string (bstr a))).setCell (p := ⟨w.heap.size, 1, none⟩) (Nat.le_refl _) (.string (bstr (unDash b)))).setCell (p := ⟨w.heap.size, 2, none⟩) (Nat.le_refl _) (.int .i64 (numR c))).setCell (p := ⟨w.heap.size, 3, none⟩) (Nat.le_refl _) (.int .i64 (numR d))).setCell (p := ⟨w.heap.size, 4, none⟩) (Nat.le_refl _) (.int .i64 (numR ee))).setCell (p := ⟨w.heap.size, 5, none⟩) (Nat.le_refl _) (.int .i64 (numR f))).setCell (p := ⟨w.heap.size, 6, none⟩) (Nat.le_refl _) (.int .i64 (numR gg))).setCell (p := ⟨w.heap.size, 7, none⟩) (Nat.le_refl _) (.int .i64 (kindOf h))).setCell (p := ⟨w.heap.size, 8, none⟩) (Nat.le_refl _) (.string (bstr (unDash i)))))
        have HPO : Hid (∀ w', Below w.heap.size w w' → RlPost s w (.returned (.tuple #[.agg #[.string (bstr a), .string (bstr (unDash b)), .int .i64 (numR c), .int .i64 (numR d), .int .i64 (numR ee), .int .i64 (numR f), .int .i64 (numR gg), .int .i64 (kindOf h), .string (bstr (unDash i))], .bool (decide (0 < kindOf h) && allN (sg s) 5)])) w') := Lib.hid (fun w' hb => by
          rw [HES.out]
          exact RlPost.fin HOK.out HNO.out hb)
        generalize (decide (0 < kindOf h) && allN (sg s) 5) = q at *
        go_wp2_with fail
        refine bodyPost_ret (results_row2 rfl _ _ w.heap.size 28 [.string (bstr a), .string (bstr (unDash b)), .int .i64 (numR c), .int .i64 (numR d), .int .i64 (numR ee), .int .i64 (numR f), .int .i64 (numR gg), .int .i64 (kindOf h), .string (bstr (unDash i))] _ rfl HRK2.out Tryz.underlying28 rfl right_info) rfl ?_
        exact HPO.out _ HBL2.out
end Go.Proofs.YtgilcllfdgdofaaGreatDoor
