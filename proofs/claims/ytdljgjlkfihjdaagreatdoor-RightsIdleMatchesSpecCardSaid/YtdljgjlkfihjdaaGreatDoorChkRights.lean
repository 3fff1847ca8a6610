/-
  'checkList' and 'CheckRights' of package rights and of the reference of chapter 10.
-/
import Derived.Test.YtdljgjlkfihjdaaGreatDoorRights
import Derived.Test.YtdljgjlkfihjdaaGreatDoorVMap
namespace Go.Proofs.YtdljgjlkfihjdaaGreatDoor
open Go.RowKit
set_option linter.unusedVariables false
set_option linter.unusedSimpArgs false

theorem keyT (s : List UInt8) (h : s.length ≤ maxLen) : keyOf Tryz.prog 9 (.string (bstr s)) = some (.string s) := 
  WideMaps.keyOf_string_mk Tryz.underlying9 (by rw [bstr_size]; exact h)
theorem bool_zeroT (w : World) : (zeroValue 4).run Tryz.prog w = .ok (.bool false) w := by kernel_rfl
set_option maxRecDepth 100000 in
set_option maxHeartbeats 1000000 in
theorem knownFn_any (v : Value) (t : List Team) (s : List UInt8) (bx : Nat) (w : World) (h0 : (Rp.sl teamRp).ok w (· < w.heap.size) [v] t) (hs : TSorted t) (hm : t.length ≤ 100) (hb : w.cell? ⟨bx, 0, none⟩ = some v) :
    Calls Tryz.prog 22 #[.string (bstr s), .pointer (some ⟨bx, 0, none⟩)] w fun e w' => e = .returned (.bool (decide (0 ≤ teamIdx t s))) ∧ Below w.heap.size w w' := by
  obtain ⟨A, c, rfl, hl, hc, _⟩ := Rp.sl_open h0
  go_enter Tryz.func22, Tryz.ntmps22
  go_wp2_with fail
  refine (teamAt_any _ t s w h0 hs hm).mono ?_
  rintro e w1 ⟨rfl, hb1⟩
  have HB := Lib.hid hb1
  clear hb1 hb h0
  go_wp2_with fail
  go_ret
  exact ⟨rfl, HB.out⟩
def SeenOf (l : List Rgt) (f : Lit → Option Value) : Prop := ∀ s, f (.string s) = if s ∈ l.map (·.id) then some (.bool true) else none
theorem seen_nil : SeenOf [] (fun _ => none) := fun s => by simp
theorem seen_put {l : List Rgt} {f : Lit → Option Value} {x : Rgt} (h : SeenOf l f) : SeenOf (l ++ [x]) (fun y => if y.sameKey (.string x.id) then some (.bool true) else f y) := by
  intro s
  dsimp only
  by_cases e : s = x.id
  · subst e
    rw [if_pos (WideAt.sameKey_self (by trivial)), if_pos (by simp)]
  · rw [if_neg (by rw [Maps.sameKey_ne (fun e2 => e (by injection e2))]; simp), h s]
    by_cases hm : s ∈ l.map (·.id)
    · rw [if_pos hm, if_pos (by rw [List.map_append, List.mem_append]; exact .inl hm)]
    · rw [if_neg hm, if_neg (by rw [List.map_append, List.mem_append]; rintro (h1 | h1); exact hm h1; exact e (by simpa using h1))]
set_option maxRecDepth 100000 in
set_option maxHeartbeats 8000000 in
theorem checkList_any (v : Value) (l : List Rgt) (vt : Value) (t : List Team) (bx : Nat) (w : World) (h0 : (Rp.sl rgtRp).ok w (· < w.heap.size) [v] l) (ht : (Rp.sl teamRp).ok w (· < w.heap.size) [vt] t) (hg : TGood t) (hb : w.cell? ⟨bx, 0, none⟩ = some vt) :
    Calls Tryz.prog 21 #[v, .func (.func 22) #[] #[.pointer (some ⟨bx, 0, none⟩)]] w fun e w' => e = .returned (.int .i64 (rgsFault t l)) ∧ Below w.heap.size w w' := by
  obtain ⟨A, c, rfl, hl, hc, _⟩ := Rp.sl_open h0
  unfold maxLen at hc
  have hbx := World.block_lt_of_cell? w _ hb
  have H0 := Lib.hid h0
  have HT := Lib.hid ht
  have HG := Lib.hid hg
  have HBX := Lib.hid hb
  clear h0 ht hg hb
  by_cases h5 : 300 < l.length
  · have HF := Lib.hid (rgs_1 (t := t) h5)
    have h5' : (300 : Int) < (l.length : Int) := by omega
    go_enter Tryz.func21, Tryz.ntmps21
    go_wp2_with fail
    go_ret
    exact ⟨by rw [HF.out]; rfl, Below.refl _ _⟩
  have h5' : ¬ (300 : Int) < (l.length : Int) := by omega
  have HM0 : Hid (VMap Tryz.prog 9 (.bool false) (w.alloc (.map #[] 0)) w.heap.size 0 (fun _ => none)) := Lib.hid (VMap.made w)
  have HB0 := Lib.hid ((Below.refl w.heap.size w).alloc (Nat.le_refl _) (.map #[] 0))
  have hmm := @run_makeMap Tryz.prog
  go_enter Tryz.func21, Tryz.ntmps21
  go_wp2_with fail
  go_loopw [15] (fun i wr => ∃ (k : Nat) (f : Lit → Option Value), k ≤ l.length ∧ i = .int .i64 k ∧ Hid (∀ j, j < k → rgsF t l j = 0) ∧ Hid (VMap Tryz.prog 9 (.bool false) wr w.heap.size k f) ∧ Hid (SeenOf (l.take k) f) ∧ Hid (Below w.heap.size w wr)) (fun i _ => l.length - (intOf i).toNat)
  case atStart => exact ⟨0, _, by omega, rfl, (fun j hj => absurd hj (by omega)), HM0, by rw [List.take_zero]; exact Lib.hid seen_nil, HB0⟩
  case round =>
    clear HM0 HB0
    obtain ⟨k, f, hk, rfl, HS, HM, HSE, HB⟩ := hrel
    by_cases hlt : k < l.length
    · obtain ⟨ad, cc, e1, hadb, c0, c1, c2, c3, c4, c5, c6, c7, c8, hz⟩ := rgt_at (Rp.below _ H0.out HB.out) hlt
      injection e1 with e1 _ e2
      subst e1 e2
      have F1 : Hid (∀ f, rgsF t l k = f → f ≠ 0 → rgsFault t l = f) := Lib.hid (fun f h h0 => rgs_2 h5 hlt HS.out h h0)
      have G5 : Hid (rgsF t l k = 0 → ∀ j, j < k + 1 → rgsF t l j = 0) := Lib.hid (fun h => firstF_step HS.out h)
      have HR : Hid (rgsF t l k = if isNm l[k].id = false then 5 else if l[k].id ∈ (l.take k).map (·.id) then 7 else if rgF l[k] ≠ 0 then rgF l[k] else if l[k].team ≠ [] ∧ teamIdx t l[k].team < 0 then 9 else 0) := Lib.hid (by rw [rgsF, getD_at _ _ hlt])
      obtain ⟨hz0, hz1, hw2, hw3, hw4, hw5, hw6, hw7, hz8⟩ := hz
      have HZ0 := Lib.hid hz0
      unfold maxLen at hz0 hz1 hz8
      have hz0 : l[k].id.length ≤ 9223372036854775807 := by omega
      have hz1 : l[k].pre.length ≤ 9223372036854775807 := by omega
      have hz8 : l[k].team.length ≤ 9223372036854775807 := by omega
      have HSP : Hid (SeenOf (l.take (k + 1)) (fun y => if y.sameKey (.string l[k].id) then some (.bool true) else f y)) := Lib.hid (by rw [List.take_succ_eq_append_getElem hlt]; exact seen_put HSE.out)
      generalize hx : l[k] = x at *
      clear hx
      have hal := (Below.refl wr.heap.size wr).alloc (Nat.le_refl _) (.cells #[.string (bstr x.id), .string (bstr x.pre), .int .i64 x.frm, .int .i64 x.to, .int .i64 x.st, .int .i64 x.en, .int .i64 x.made, .int .i64 x.kind, .string (bstr x.team)] 38)
      have HB4 := Lib.hid (HB.out.trans (hal.mono HB.out.size))
      have HK4 := Lib.hid (Blk.new wr 38 [.string (bstr x.id), .string (bstr x.pre), .int .i64 x.frm, .int .i64 x.to, .int .i64 x.st, .int .i64 x.en, .int .i64 x.made, .int .i64 x.kind, .string (bstr x.team)])
      have HM4 := Lib.hid (HM.out.below hal HM.out.lt)
      have hmlt : w.heap.size < wr.heap.size := HM.out.lt
      have d0 : _ = some (Value.string (bstr x.id)) := HK4.out.cell 0
      have HKEY := Lib.hid (keyT x.id HZ0.out)
      clear hal
      go_wp2_with fail
      clear d0 c0 c1 c2 c3 c4 c5 c6 c7 c8
      generalize wr.alloc (.cells #[.string (bstr x.id), .string (bstr x.pre), .int .i64 x.frm, .int .i64 x.to, .int .i64 x.st, .int .i64 x.en, .int .i64 x.made, .int .i64 x.kind, .string (bstr x.team)] 38) = w4 at *
      refine (isName_any x.id _ hz0).mono ?_
      rintro e w5 ⟨rfl, hb5⟩
      have HB5 := Lib.hid (HB4.out.trans (hb5.mono HB4.out.size))
      have HK5 := Lib.hid (HK4.out.same (same_below hb5) HK4.out.lt)
      have HM5 := Lib.hid (HM4.out.below hb5 HM4.out.lt)
      clear hb5 HM HM4 HK4
      cases q1 : isNm x.id with
      | false =>
        have HF : Hid (rgsFault t l = 5) := Lib.hid (F1.out _ (HR.out.trans (if_pos q1)) (by decide))
        clear q1 HR F1 G5
        go_wp2_with fail
        go_ret
        exact ⟨by rw [HF.out]; rfl, HB5.out⟩
      | true =>
      have HR1 := Lib.hid (HR.out.trans (if_neg (by rw [q1]; decide)))
      clear q1 HR
      have hlk := HM5.out.look (T := 74) (Maps.string_keyed Tryz.underlying9) Tryz.underlying74 bool_zeroT HKEY.out (by trivial)
      rw [HSE.out x.id] at hlk
      have d0 : w5.cell? ⟨wr.heap.size, 0, none⟩ = some (.string (bstr x.id)) := HK5.out.cell 0
      have d1 : w5.cell? ⟨wr.heap.size, 1, none⟩ = some (.string (bstr x.pre)) := HK5.out.cell 1
      have d2 : w5.cell? ⟨wr.heap.size, 2, none⟩ = some (.int .i64 x.frm) := HK5.out.cell 2
      have d3 : w5.cell? ⟨wr.heap.size, 3, none⟩ = some (.int .i64 x.to) := HK5.out.cell 3
      have d4 : w5.cell? ⟨wr.heap.size, 4, none⟩ = some (.int .i64 x.st) := HK5.out.cell 4
      have d5 : w5.cell? ⟨wr.heap.size, 5, none⟩ = some (.int .i64 x.en) := HK5.out.cell 5
      have d6 : w5.cell? ⟨wr.heap.size, 6, none⟩ = some (.int .i64 x.made) := HK5.out.cell 6
      have d7 : w5.cell? ⟨wr.heap.size, 7, none⟩ = some (.int .i64 x.kind) := HK5.out.cell 7
      have d8 : w5.cell? ⟨wr.heap.size, 8, none⟩ = some (.string (bstr x.team)) := HK5.out.cell 8
      by_cases hin : x.id ∈ (l.take k).map (·.id)
      · have HF : Hid (rgsFault t l = 7) := Lib.hid (F1.out _ (HR1.out.trans (if_pos hin)) (by decide))
        rw [if_pos hin, Option.getD_some] at hlk
        clear hin HR1 F1 G5
        go_wp2_with fail
        go_ret
        exact ⟨by rw [HF.out]; rfl, HB5.out⟩
      have HR2 := Lib.hid (HR1.out.trans (if_neg hin))
      rw [if_neg hin, Option.getD_none] at hlk
      clear hin HR1
      go_wp2_with (at_mapUpdate; refine vmap_update rfl _ _ _ 74 rfl HM5.out (Maps.string_keyed Tryz.underlying9) Tryz.underlying74 (by unfold maxLen; omega) (.string x.id) (.bool true) rfl rfl rfl HKEY.out (by trivial) ?_; intro w6 HM6 HG6; have HKQ := HK5.out.same (grown_same HG6.out) ⟨HK5.out.lt, fun e => absurd (Option.some.inj e) (by omega)⟩; have HK6 := Lib.hid HKQ; have d0 : w6.cell? ⟨wr.heap.size, 0, none⟩ = some (.string (bstr x.id)) := HK6.out.cell 0; have d1 : w6.cell? ⟨wr.heap.size, 1, none⟩ = some (.string (bstr x.pre)) := HK6.out.cell 1; have d2 : w6.cell? ⟨wr.heap.size, 2, none⟩ = some (.int .i64 x.frm) := HK6.out.cell 2; have d3 : w6.cell? ⟨wr.heap.size, 3, none⟩ = some (.int .i64 x.to) := HK6.out.cell 3; have d4 : w6.cell? ⟨wr.heap.size, 4, none⟩ = some (.int .i64 x.st) := HK6.out.cell 4; have d5 : w6.cell? ⟨wr.heap.size, 5, none⟩ = some (.int .i64 x.en) := HK6.out.cell 5; have d6 : w6.cell? ⟨wr.heap.size, 6, none⟩ = some (.int .i64 x.made) := HK6.out.cell 6; have d7 : w6.cell? ⟨wr.heap.size, 7, none⟩ = some (.int .i64 x.kind) := HK6.out.cell 7; have d8 : w6.cell? ⟨wr.heap.size, 8, none⟩ = some (.string (bstr x.team)) := HK6.out.cell 8)
      have HB6 := Lib.hid (HB5.out.grown HG6.out HB5.out.size (fun j hj => by cases hj; exact Nat.le_refl _))
      clear HG6 HKQ HK5 HM5 HB5 hlk
      refine (checkRight_any x _ hz0 hz1 hz8).mono ?_
      rintro e w7 ⟨rfl, hb7⟩
      have HB7 := Lib.hid (HB6.out.trans (hb7.mono HB6.out.size))
      have HK7 := Lib.hid (HK6.out.same (same_below hb7) HK6.out.lt)
      have HM7 := Lib.hid (HM6.out.below hb7 HM6.out.lt)
      clear d0 d1 d2 d3 d4 d5 d6 d7 d8
      clear hb7 HM6 HK6 HB6
      generalize hrg : rgF x = rf at *
      by_cases hrf : rf = 0
      case neg =>
        have HF : Hid (rgsFault t l = rf) := Lib.hid (F1.out _ (HR2.out.trans (if_pos hrf)) hrf)
        have hb : (rf != 0) = true := by simpa using hrf
        clear hrf HR2 F1 G5
        go_wp2_with fail
        go_ret
        exact ⟨by rw [HF.out]; rfl, HB7.out⟩
      have hb : (rf != 0) = false := by simpa using hrf
      have HR3 : Hid (rgsF t l k = if x.team ≠ [] ∧ teamIdx t x.team < 0 then 9 else 0) := Lib.hid (HR2.out.trans (if_neg (fun e => e hrf)))
      clear HR2
      subst hrf
      have d8 : w7.cell? ⟨wr.heap.size, 8, none⟩ = some (.string (bstr x.team)) := HK7.out.cell 8
      by_cases htm : x.team = []
      · have he : (bstr x.team).toList.isEmpty = true := by rw [htm, bstr_toList]; rfl
        have F5 := Lib.hid (G5.out (HR3.out.trans (if_neg (fun e => e.1 htm))))
        clear HR3 F1 G5 htm
        go_wp2_with fail
        go_roundw
        case rel => first | exact ⟨k + 1, _, by omega, by go_num, F5, HM7, HSP, HB7⟩ | (repeat (apply Exists.intro); (refine And.intro ?_ ?_; rotate_left; (repeat' (first | exact rfl | apply And.intro)); exact ⟨k + 1, _, by omega, by go_num, F5, HM7, HSP, HB7⟩))
        case measure => simp [intOf]; omega
      have he : (bstr x.team).toList.isEmpty = false := by
        rw [bstr_toList]; cases hq : x.team with | nil => exact absurd hq htm | cons _ _ => rfl
      go_wp2_with fail
      refine (knownFn_any vt t x.team bx w7 (Rp.ext _ HT.out HB7.out) HG.out.sort HG.out.len ((HB7.out.cell (p := ⟨bx, 0, none⟩) hbx).trans HBX.out)).mono ?_
      rintro e w8 ⟨rfl, hb8⟩
      have HB8 := Lib.hid (HB7.out.trans (hb8.mono HB7.out.size))
      have HM8 := Lib.hid (HM7.out.below hb8 HM7.out.lt)
      clear hb8 d8 HM7 HB7
      generalize teamIdx t x.team = ti at *
      by_cases hti : 0 ≤ ti
      · have F5 := Lib.hid (G5.out (HR3.out.trans (if_neg (fun e => absurd e.2 (by omega)))))
        rw [decide_eq_true hti]
        clear HR3 F1 G5 htm
        go_wp2_with fail
        go_roundw
        case rel => first | exact ⟨k + 1, _, by omega, by go_num, F5, HM8, HSP, HB8⟩ | (repeat (apply Exists.intro); (refine And.intro ?_ ?_; rotate_left; (repeat' (first | exact rfl | apply And.intro)); exact ⟨k + 1, _, by omega, by go_num, F5, HM8, HSP, HB8⟩))
        case measure => simp [intOf]; omega
      · have HF : Hid (rgsFault t l = 9) := Lib.hid (F1.out _ (HR3.out.trans (if_pos ⟨htm, by omega⟩)) (by decide))
        rw [decide_eq_false hti]
        clear HR3 F1 G5 htm
        go_wp2_with fail
        go_ret
        exact ⟨by rw [HF.out]; rfl, HB8.out⟩
    · obtain rfl : k = l.length := by omega
      have HF := Lib.hid (rgs_3 h5 HS.out)
      go_wp2_with fail
      go_ret
      exact ⟨by rw [HF.out]; rfl, HB.out⟩
theorem rgF_part {r : Rgt} (h : isNm r.id = true) : rgF r = rgPart r := if_neg (by rw [h]; decide)
set_option maxRecDepth 100000 in
set_option maxHeartbeats 8000000 in
theorem hCheckList_any (v : Value) (l : List Rgt) (vt : Value) (t : List Team) (w : World) (h0 : (Rp.sl rgtRp).ok w (· < w.heap.size) [v] l) (ht : (Rp.sl teamRp).ok w (· < w.heap.size) [vt] t) :
    Calls Tryz.prog 28 #[vt, v, .bool true] w fun e w' => e = .returned (.int .i64 (rgsFault t l)) ∧ Below w.heap.size w w' := by
  obtain ⟨A, c, rfl, hl, hc, _⟩ := Rp.sl_open h0
  unfold maxLen at hc
  have H0 := Lib.hid h0
  have HT := Lib.hid ht
  clear h0 ht
  by_cases h5 : 300 < l.length
  · have HF := Lib.hid (rgs_1 (t := t) h5)
    have h5' : (300 : Int) < (l.length : Int) := by omega
    go_enter Tryz.func28, Tryz.ntmps28
    go_wp2_with fail
    go_ret
    exact ⟨by rw [HF.out]; rfl, Below.refl _ _⟩
  have h5' : ¬ (300 : Int) < (l.length : Int) := by omega
  go_enter Tryz.func28, Tryz.ntmps28
  go_wp2_with fail
  go_loopw [17] (fun i wr => ∃ k : Nat, k ≤ l.length ∧ i = .int .i64 k ∧ Hid (∀ j, j < k → rgsF t l j = 0) ∧ Hid (Below w.heap.size w wr)) (fun i _ => l.length - (intOf i).toNat)
  case atStart => exact ⟨0, by omega, rfl, (fun j hj => absurd hj (by omega)), Below.refl _ _⟩
  case round =>
    obtain ⟨k, hk, rfl, HS, HB⟩ := hrel
    by_cases hlt : k < l.length
    · obtain ⟨ad, cc, e1, hadb, c0, c1, c2, c3, c4, c5, c6, c7, c8, hz⟩ := rgt_at (Rp.below _ H0.out HB.out) hlt
      injection e1 with e1 _ e2
      subst e1 e2
      have F1 : Hid (∀ f, rgsF t l k = f → f ≠ 0 → rgsFault t l = f) := Lib.hid (fun f h h0 => rgs_2 h5 hlt HS.out h h0)
      have G5 : Hid (rgsF t l k = 0 → ∀ j, j < k + 1 → rgsF t l j = 0) := Lib.hid (fun h => firstF_step HS.out h)
      have HR : Hid (rgsF t l k = if isNm l[k].id = false then 5 else if l[k].id ∈ (l.take k).map (·.id) then 7 else if rgF l[k] ≠ 0 then rgF l[k] else if l[k].team ≠ [] ∧ teamIdx t l[k].team < 0 then 9 else 0) := Lib.hid (by rw [rgsF, getD_at _ _ hlt])
      obtain ⟨hz0, hz1, hw2, hw3, hw4, hw5, hw6, hw7, hz8⟩ := hz
      have HZ0 := Lib.hid hz0
      unfold maxLen at hz0 hz1 hz8
      have hz0 : l[k].id.length ≤ 9223372036854775807 := by omega
      have hz1 : l[k].pre.length ≤ 9223372036854775807 := by omega
      have hz8 : l[k].team.length ≤ 9223372036854775807 := by omega
      generalize hx : l[k] = x at *
      clear hx
      have hal := (Below.refl wr.heap.size wr).alloc (Nat.le_refl _) (.cells #[.string (bstr x.id), .string (bstr x.pre), .int .i64 x.frm, .int .i64 x.to, .int .i64 x.st, .int .i64 x.en, .int .i64 x.made, .int .i64 x.kind, .string (bstr x.team)] 38)
      have HB4 := Lib.hid (HB.out.trans (hal.mono HB.out.size))
      have HK4 := Lib.hid (Blk.new wr 38 [.string (bstr x.id), .string (bstr x.pre), .int .i64 x.frm, .int .i64 x.to, .int .i64 x.st, .int .i64 x.en, .int .i64 x.made, .int .i64 x.kind, .string (bstr x.team)])
      have d0 : _ = some (Value.string (bstr x.id)) := HK4.out.cell 0
      clear hal
      go_wp2_with fail
      clear d0 c0 c1 c2 c3 c4 c5 c6 c7 c8
      generalize wr.alloc (.cells #[.string (bstr x.id), .string (bstr x.pre), .int .i64 x.frm, .int .i64 x.to, .int .i64 x.st, .int .i64 x.en, .int .i64 x.made, .int .i64 x.kind, .string (bstr x.team)] 38) = w4 at *
      refine (hNameB_any x.id _ hz0).mono ?_
      rintro e w5 ⟨rfl, hb5⟩
      have HB5 := Lib.hid (HB4.out.trans (hb5.mono HB4.out.size))
      have HK5 := Lib.hid (HK4.out.same (same_below hb5) HK4.out.lt)
      clear hb5 HK4
      cases q1 : isNm x.id with
      | false =>
        have HF : Hid (rgsFault t l = 5) := Lib.hid (F1.out _ (HR.out.trans (if_pos q1)) (by decide))
        clear q1 HR F1 G5
        go_wp2_with fail
        go_ret
        exact ⟨by rw [HF.out]; rfl, HB5.out⟩
      | true =>
      have HR1 := Lib.hid (HR.out.trans (if_neg (by rw [q1]; decide)))
      have HPART := Lib.hid (rgF_part q1)
      clear q1 HR HB4
      have hcne : ¬ c = 0 := by omega
      have hkc : (k : Int) ≤ (c : Int) := by omega
      have hk0 : (0 : Int) ≤ (k : Int) := by omega
      obtain ⟨xb, hxb⟩ : ∃ xb, xb = wr.heap.size := ⟨_, rfl⟩
      rw [← hxb] at HK5 ⊢
      clear hxb
      obtain ⟨wo, rfl⟩ : ∃ wo : World, wo = wr := ⟨_, rfl⟩
      go_wp2_with fail
      go_loopw [30] (fun i wx => ∃ m : Nat, m ≤ k ∧ i = .int .i64 m ∧ Hid (∀ j, (hj : j < l.length) → j < m → l[j].id ≠ x.id) ∧ Hid (Below w5.heap.size w5 wx)) (fun i _ => k - (intOf i).toNat)
      case atStart => exact ⟨0, by omega, rfl, (fun j _ hj => absurd hj (by omega)), Below.refl _ _⟩
      case round =>
        obtain ⟨m, hm, rfl, HN, HW⟩ := hrel
        have HBR := Lib.hid (HB5.out.trans (HW.out.mono HB5.out.size))
        have HKR := Lib.hid (HK5.out.same (same_below HW.out) HK5.out.lt)
        by_cases hmk : m < k
        · obtain ⟨ad', c', e1, hadb', c0, c1, c2, c3, c4, c5, c6, c7, c8, hz'⟩ := rgt_at (Rp.below _ H0.out HBR.out) (show m < l.length by omega)
          cases e1
          have HIN : Hid ((l[m]'(by omega)).id = x.id → x.id ∈ (l.take k).map (·.id)) := Lib.hid (fun h => List.mem_map.2 ⟨l[m]'(by omega), List.mem_iff_getElem.2 ⟨m, by rw [List.length_take]; omega, by rw [List.getElem_take]⟩, h⟩)
          have HNX : Hid ((l[m]'(by omega)).id ≠ x.id → ∀ j, (hj : j < l.length) → j < m + 1 → l[j].id ≠ x.id) := Lib.hid (fun h j hj hjm => by
            by_cases e : j = m
            · subst e; exact h
            · exact HN.out j hj (by omega))
          clear hz' hadb'
          generalize l[m]'(by omega) = y at *
          have hal := (Below.refl wr.heap.size wr).alloc (Nat.le_refl _) (.cells #[.string (bstr y.id), .string (bstr y.pre), .int .i64 y.frm, .int .i64 y.to, .int .i64 y.st, .int .i64 y.en, .int .i64 y.made, .int .i64 y.kind, .string (bstr y.team)] 38)
          have HW6 := Lib.hid (HW.out.trans (hal.mono HW.out.size))
          have HK6 := Lib.hid (HKR.out.same (same_below hal) HKR.out.lt)
          have hky := Blk.new wr 38 [.string (bstr y.id), .string (bstr y.pre), .int .i64 y.frm, .int .i64 y.to, .int .i64 y.st, .int .i64 y.en, .int .i64 y.made, .int .i64 y.kind, .string (bstr y.team)]
          have y0 : _ = some (Value.string (bstr y.id)) := hky.cell 0
          have x0 : (wr.alloc (.cells #[.string (bstr y.id), .string (bstr y.pre), .int .i64 y.frm, .int .i64 y.to, .int .i64 y.st, .int .i64 y.en, .int .i64 y.made, .int .i64 y.kind, .string (bstr y.team)] 38)).cell? ⟨xb, 0, none⟩ = some (.string (bstr x.id)) := HK6.out.cell 0
          have HBR6 := Lib.hid (HBR.out.trans (hal.mono HBR.out.size))
          have hmkI : (m : Int) < (k : Int) := by omega
          clear hal hky
          by_cases hq : y.id = x.id
          · have HF : Hid (rgsFault t l = 7) := Lib.hid (F1.out _ (HR1.out.trans (if_pos (HIN.out hq))) (by decide))
            have hb : ((bstr y.id).toList == (bstr x.id).toList) = true := str_beq (by rw [hq])
            clear hq HR1 F1 G5 HIN HNX
            go_wp2_with fail
            go_ret
            exact ⟨by rw [HF.out]; rfl, HBR6.out⟩
          · have hb : ((bstr y.id).toList == (bstr x.id).toList) = false := str_bne (fun e => hq (bstr_inj e))
            have F5 := Lib.hid (HNX.out hq)
            clear hq HIN HNX
            go_wp2_with fail
            go_roundw
            case rel => first | exact ⟨m + 1, by omega, by go_num, F5, HW6⟩ | (repeat (apply Exists.intro); (refine And.intro ?_ ?_; rotate_left; (repeat' (first | exact rfl | apply And.intro)); exact ⟨m + 1, by omega, by go_num, F5, HW6⟩))
            case measure => simp [intOf]; omega
        · obtain rfl : m = k := by omega
          have HNIN : Hid (x.id ∉ (l.take m).map (·.id)) := Lib.hid (fun h => by
            obtain ⟨y, hy, he⟩ := List.mem_map.1 h
            obtain ⟨j, hj, rfl⟩ := List.mem_iff_getElem.1 hy
            rw [List.length_take] at hj
            rw [List.getElem_take] at he
            exact HN.out j (by omega) (by omega) he)
          have HR2 := Lib.hid (HR1.out.trans (if_neg HNIN.out))
          have hmkI : ¬ (m : Int) < (m : Int) := by omega
          clear HR1 HN
          have d0 : wr.cell? ⟨xb, 0, none⟩ = some (.string (bstr x.id)) := HKR.out.cell 0
          have d1 : wr.cell? ⟨xb, 1, none⟩ = some (.string (bstr x.pre)) := HKR.out.cell 1
          have d2 : wr.cell? ⟨xb, 2, none⟩ = some (.int .i64 x.frm) := HKR.out.cell 2
          have d3 : wr.cell? ⟨xb, 3, none⟩ = some (.int .i64 x.to) := HKR.out.cell 3
          have d4 : wr.cell? ⟨xb, 4, none⟩ = some (.int .i64 x.st) := HKR.out.cell 4
          have d5 : wr.cell? ⟨xb, 5, none⟩ = some (.int .i64 x.en) := HKR.out.cell 5
          have d6 : wr.cell? ⟨xb, 6, none⟩ = some (.int .i64 x.made) := HKR.out.cell 6
          have d7 : wr.cell? ⟨xb, 7, none⟩ = some (.int .i64 x.kind) := HKR.out.cell 7
          have d8 : wr.cell? ⟨xb, 8, none⟩ = some (.string (bstr x.team)) := HKR.out.cell 8
          go_wp2_with fail
          refine (checkPart_any x _ hz1 hz8).mono ?_
          rintro e w7 ⟨rfl, hb7⟩
          have HB7 := Lib.hid (HBR.out.trans (hb7.mono HBR.out.size))
          have HK7 := Lib.hid (HKR.out.same (same_below hb7) HKR.out.lt)
          rw [← HPART.out]
          clear d0 d1 d2 d3 d4 d5 d6 d7 d8
          clear hb7 HKR HBR HPART HK5
          generalize hrg : rgF x = rf at *
          by_cases hrf : rf = 0
          case neg =>
            have HF : Hid (rgsFault t l = rf) := Lib.hid (F1.out _ (HR2.out.trans (if_pos hrf)) hrf)
            have hb : (rf != 0) = true := by simpa using hrf
            clear hrf HR2 F1 G5
            go_wp2_with fail
            go_ret
            exact ⟨by rw [HF.out]; rfl, HB7.out⟩
          have hb : (rf != 0) = false := by simpa using hrf
          have HR3 : Hid (rgsF t l m = if x.team ≠ [] ∧ teamIdx t x.team < 0 then 9 else 0) := Lib.hid (HR2.out.trans (if_neg (fun e => e hrf)))
          clear HR2
          subst hrf
          have d8 : w7.cell? ⟨xb, 8, none⟩ = some (.string (bstr x.team)) := HK7.out.cell 8
          by_cases htm : x.team = []
          · have he : (bstr x.team).toList.isEmpty = true := by rw [htm, bstr_toList]; rfl
            have F5 := Lib.hid (G5.out (HR3.out.trans (if_neg (fun e => e.1 htm))))
            clear HR3 F1 G5 htm
            go_wp2_with fail
            go_roundw
            case rel => first | exact ⟨m + 1, by omega, by go_num, F5, HB7⟩ | (repeat (apply Exists.intro); (refine And.intro ?_ ?_; rotate_left; (repeat' (first | exact rfl | apply And.intro)); exact ⟨m + 1, by omega, by go_num, F5, HB7⟩))
            case measure => simp [intOf]; omega
          have he : (bstr x.team).toList.isEmpty = false := by
            rw [bstr_toList]; cases hq : x.team with | nil => exact absurd hq htm | cons _ _ => rfl
          go_wp2_with fail
          refine (teamOf_any vt t x.team w7 (Rp.ext _ HT.out HB7.out)).mono ?_
          rintro e w8 ⟨rfl, hb8⟩
          have HB8 := Lib.hid (HB7.out.trans (hb8.mono HB7.out.size))
          clear hb8 d8 HB7
          generalize teamIdx t x.team = ti at *
          by_cases hti : ti < 0
          · have HF : Hid (rgsFault t l = 9) := Lib.hid (F1.out _ (HR3.out.trans (if_pos ⟨htm, hti⟩)) (by decide))
            clear HR3 F1 G5 htm
            go_wp2_with fail
            go_ret
            exact ⟨by rw [HF.out]; rfl, HB8.out⟩
          · have F5 := Lib.hid (G5.out (HR3.out.trans (if_neg (fun e => hti e.2))))
            clear HR3 F1 G5 htm
            go_wp2_with fail
            go_roundw
            case rel => first | exact ⟨m + 1, by omega, by go_num, F5, HB8⟩ | (repeat (apply Exists.intro); (refine And.intro ?_ ?_; rotate_left; (repeat' (first | exact rfl | apply And.intro)); exact ⟨m + 1, by omega, by go_num, F5, HB8⟩))
            case measure => simp [intOf]; omega
    · obtain rfl : k = l.length := by omega
      have HF := Lib.hid (rgs_3 h5 HS.out)
      go_wp2_with fail
      go_ret
      exact ⟨by rw [HF.out]; rfl, HB.out⟩
set_option maxRecDepth 100000 in
set_option maxHeartbeats 1000000 in
theorem checkRights_any (vt : Value) (t : List Team) (v : Value) (l : List Rgt) (w : World) (ht : (Rp.sl teamRp).ok w (· < w.heap.size) [vt] t) (h0 : (Rp.sl rgtRp).ok w (· < w.heap.size) [v] l) :
    Calls Tryz.prog 10 #[vt, v] w fun e w' => e = .returned (.int .i64 (rightsFault t l)) ∧ Below w.heap.size w w' := by
  have HBW := Lib.hid ((Below.refl w.heap.size w).alloc (Nat.le_refl _) (.cells #[vt] 22))
  have hkx := Blk.new w 22 [vt]
  have hbx0 : _ = some vt := hkx.cell 0
  have hbxlt := hkx.lt
  have H0 := Lib.hid (Rp.ext _ h0 HBW.out)
  have HT := Lib.hid (Rp.ext _ ht HBW.out)
  obtain ⟨A, c, rfl, _⟩ := Rp.sl_open ht
  clear hkx h0 ht
  go_enter Tryz.func10, Tryz.ntmps10
  go_wp2_with fail
  generalize w.alloc (.cells #[.slice A t.length c] 22) = w1 at *
  refine (checkTeams_any _ t w1 HT.out).mono ?_
  rintro e w2 ⟨rfl, hb⟩
  have HB2 := Lib.hid (HBW.out.trans (hb.mono HBW.out.size))
  have H2 := Lib.hid (Rp.ext _ H0.out hb)
  have HT2 := Lib.hid (Rp.ext _ HT.out hb)
  have hbx2 : w2.cell? ⟨w.heap.size, 0, none⟩ = some (.slice A t.length c) := (hb.cell (p := ⟨w.heap.size, 0, none⟩) hbxlt).trans hbx0
  clear hb H0 HT hbx0
  by_cases hf : teamsFault t = 0
  case neg =>
    have HF : Hid (rightsFault t l = teamsFault t) := Lib.hid (if_pos hf)
    have hb : (teamsFault t != 0) = true := by simpa using hf
    clear hf
    go_wp2_with fail
    go_ret
    exact ⟨by rw [HF.out]; rfl, HB2.out⟩
  have HF : Hid (rightsFault t l = rgsFault t l) := Lib.hid (if_neg (fun e => e hf))
  have HTG := Lib.hid (teams_good hf).1
  rw [hf]
  clear hf
  go_wp2_with fail
  refine (checkList_any v l _ t w.heap.size w2 H2.out HT2.out HTG.out hbx2).mono ?_
  rintro e w3 ⟨rfl, hb⟩
  have HB3 := Lib.hid (HB2.out.trans (hb.mono HB2.out.size))
  clear hb
  go_wp2_with fail
  go_ret
  exact ⟨by rw [HF.out]; rfl, HB3.out⟩
set_option maxRecDepth 100000 in
set_option maxHeartbeats 1000000 in
theorem hCheckRights_any (vt : Value) (t : List Team) (v : Value) (l : List Rgt) (w : World) (ht : (Rp.sl teamRp).ok w (· < w.heap.size) [vt] t) (h0 : (Rp.sl rgtRp).ok w (· < w.heap.size) [v] l) :
    Calls Tryz.prog 13 #[vt, v] w fun e w' => e = .returned (.int .i64 (rightsFault t l)) ∧ Below w.heap.size w w' := by
  have H0 := Lib.hid h0
  have HT := Lib.hid ht
  clear h0 ht
  go_enter Tryz.func13, Tryz.ntmps13
  go_wp2_with fail
  refine (hCheckTeams_any _ t w HT.out).mono ?_
  rintro e w2 ⟨rfl, hb⟩
  have HB2 := Lib.hid hb
  have H2 := Lib.hid (Rp.ext _ H0.out hb)
  have HT2 := Lib.hid (Rp.ext _ HT.out hb)
  clear hb H0 HT
  by_cases hf : teamsFault t = 0
  case neg =>
    have HF : Hid (rightsFault t l = teamsFault t) := Lib.hid (if_pos hf)
    have hb : (teamsFault t != 0) = true := by simpa using hf
    clear hf
    go_wp2_with fail
    go_ret
    exact ⟨by rw [HF.out]; rfl, HB2.out⟩
  have HF : Hid (rightsFault t l = rgsFault t l) := Lib.hid (if_neg (fun e => e hf))
  rw [hf]
  clear hf
  go_wp2_with fail
  refine (hCheckList_any v l _ t w2 H2.out HT2.out).mono ?_
  rintro e w3 ⟨rfl, hb⟩
  have HB3 := Lib.hid (HB2.out.trans (hb.mono HB2.out.size))
  clear hb
  go_wp2_with fail
  go_ret
  exact ⟨by rw [HF.out]; rfl, HB3.out⟩
end Go.Proofs.YtdljgjlkfihjdaaGreatDoor
