/-
  Text of the reference of chapter 10.
-/
import Derived.Test.YtgilcllfdgdofaaGreatDoorTxSh
import Derived.Test.YtgilcllfdgdofaaGreatDoorAlo
import Derived.Test.YtgilcllfdgdofaaGreatDoorRdN
import Derived.Test.YtgilcllfdgdofaaGreatDoorNest
import Derived.Deep.RegionHeld
namespace Go.Proofs.YtgilcllfdgdofaaGreatDoor
open Go.RowKit
set_option linter.unusedVariables false
set_option linter.unusedSimpArgs false

theorem str_plusU (a b : List UInt8) : bstr a ++ bstr b = bstr (a ++ b) := by
  apply str_inj
  rw [ByteArray.toList_eq, ByteArray.toList_eq]
  simp [bstr, ByteArray.data_append]
theorem own_blwT {w w' : World} {B : Nat} {e : TypeId} {size n : Nat} {v : Value} {xs : List Value} (h : w.ownsRow B e size v n xs) (hb : Below w.heap.size w w') : w'.ownsRow B e size v n xs :=
  h.kept (row := none) ⟨hb.os, hb.tape, hb.output, hb.size, fun k hk _ => hb.block k hk⟩ (by cases hg : v.ownBlock <;> simp)
theorem own_cellsT {w : World} {B : Nat} {e : TypeId} {g n c : Nat} {xs : List Value} (h : w.ownsRow B e 1 (.slice (some ⟨g, 0, none⟩) n c) n xs) (hn : 0 < n) : n ≤ c ∧ g < w.heap.size ∧ ∀ i, i < n → w.cell? ⟨g, i, none⟩ = xs[i]? := by
  rcases h.2 with ⟨h1, _⟩ | ⟨g', cap, cur, hv, _, hh, hc, hm, hs, ht⟩
  · cases h1
  · injection hv with e1 _ e2
    injection e1 with e1
    injection e1 with e1
    subst e1 e2
    refine ⟨hc, (Array.getElem?_eq_some_iff.1 hh).1, fun i hi => ?_⟩
    rw [cell_of_row w g i cur e (0, 0) hh, ← ht, List.getElem?_take]
    rw [if_pos (by omega)]
    simp
def numL (x : Rgt) : List Int := [x.frm, x.to, x.st, x.en, x.made]
theorem numL_ok {x : Rgt} (h : ROk x) : ∀ n ∈ numL x, 0 ≤ n ∧ n ≤ 253402300800 := by
  intro n hn
  unfold numL at hn
  simp only [List.mem_cons, List.not_mem_nil, or_false] at hn
  rcases hn with rfl | rfl | rfl | rfl | rfl
  · exact h.frm
  · exact h.to
  · exact h.st
  · exact h.en
  · exact h.made
/-- The row of words of a right, after j of its numbers. -/
def rowW (x : Rgt) (j : Nat) : List Value := [.string (bstr x.id), .string (bstr (dashS x.pre))] ++ ((numL x).take j).map fun n => .string (bstr (Lib.itoa n))
theorem rowW_succ (x : Rgt) {j : Nat} (hj : j < 5) : rowW x (j + 1) = rowW x j ++ [.string (bstr (Lib.itoa ((numL x).getD j 0)))] := by
  have : j = 0 ∨ j = 1 ∨ j = 2 ∨ j = 3 ∨ j = 4 := by omega
  rcases this with rfl | rfl | rfl | rfl | rfl <;> rfl
set_option maxRecDepth 100000 in
set_option maxHeartbeats 16000000 in
theorem refTextRights_any (v : Value) (l : List Rgt) (w : World) (h : (Rp.sl rgtRp).ok w (· < w.heap.size) [v] l) (hT : TI w) (hG : GInt w) :
    Calls Tryz.prog 10 #[v] w fun e w' => e = .returned (.tuple #[.string (bstr (txOut l).1), .int .i64 (txOut l).2]) ∧ Below w.heap.size w w' := by
  obtain ⟨A, c, rfl, hl, hc, _⟩ := Rp.sl_open h
  unfold maxLen at hc
  have H := Lib.hid h
  have HT := Lib.hid hT
  have HG := Lib.hid hG
  clear h hT hG
  go_enter Tryz.func10, Tryz.ntmps10
  go_wp2_with fail
  refine (hAloList_any _ l w H.out).mono ?_
  rintro e w1 ⟨rfl, hb1⟩
  have HB1 := Lib.hid hb1
  have H1 := Lib.hid (Rp.ext _ H.out hb1)
  have HTX : Hid (∀ w', Below w1.heap.size w1 w' → TI w') := Lib.hid (fun w' hb => (HT.out.ext hb1).ext hb)
  have HGX : Hid (∀ w', Below w1.heap.size w1 w' → GInt w') := Lib.hid (fun w' hb => (HG.out.ext hb1).ext hb)
  clear hb1 H HT HG
  by_cases hp : aloFault l = 0
  case neg =>
    have HM := Lib.hid (tx_bad hp)
    generalize aloFault l = pf at *
    go_wp2_with fail
    go_ret2
    exact ⟨by rw [HM.out]; rfl, HB1.out⟩
  have HOKS := Lib.hid (alo_ok hp).2
  have hl3 := (alo_ok hp).1
  have HLN := Lib.hid (textL_len HOKS.out)
  have HP := Lib.hid hp
  rw [hp]
  clear hp
  go_wp2_with fail
  go_loopw [5, 6, 19] (fun vt vb vi wr => ∃ k : Nat, k ≤ l.length ∧ vt = .string (bstr (textL (l.take k))) ∧ vb = .bool (hasDash (l.take k)) ∧ vi = .int .i64 k ∧ Hid (Below w1.heap.size w1 wr)) (fun _ _ vi _ => l.length - (intOf vi).toNat)
  case atStart => exact ⟨0, by omega, rfl, rfl, rfl, Below.refl _ _⟩
  case round =>
    obtain ⟨k, hk, rfl, rfl, rfl, HB⟩ := hrel
    by_cases hlt : k < l.length
    · obtain ⟨ad, c', e1, hadb, c0, c1, c2, c3, c4, c5, c6, c7, c8, _⟩ := rgt_at (Rp.below _ H1.out HB.out) hlt
      cases e1
      have HRO : Hid (ROk l[k]) := Lib.hid (HOKS.out _ (List.getElem_mem _))
      obtain ⟨q, hkd, hq4⟩ : ∃ q : Nat, l[k].kind = (q : Int) + 1 ∧ q < 4 := ⟨(l[k].kind - 1).toNat, by have := HRO.out.kind; omega, by have := HRO.out.kind; omega⟩
      have hN1 : hasDash (l.take (k + 1)) = (hasDash (l.take k) || decide (l[k].pre = [45])) := by
        unfold hasDash
        rw [List.take_succ_eq_append_getElem hlt, List.any_append]
        simp
      have hkw : kwOf l[k].kind = kindRow.getD q [] := by
        rw [hkd]
        have : q = 0 ∨ q = 1 ∨ q = 2 ∨ q = 3 := by omega
        rcases this with rfl | rfl | rfl | rfl <;> rfl
      have HKC : Hid (∀ (w' : World) (kb : Nat), Blk w' kb 9 (kindRow.map fun x => Value.string (bstr x)) → w'.cell? ⟨kb, q, none⟩ = some (.string (bstr (kindRow.getD q [])))) := Lib.hid (fun w' kb h => by
        rw [h.cell q]
        have : q = 0 ∨ q = 1 ∨ q = 2 ∨ q = 3 := by omega
        rcases this with rfl | rfl | rfl | rfl <;> rfl)
      have hjw := join_words l[k]
      unfold wordsR at hjw
      rw [hkw] at hjw
      have hln := rgT_len HRO.out
      have htl := HLN.out k hk
      have HSU := Lib.hid (textL_succ hlt)
      have HN1 := Lib.hid hN1
      rw [hkd] at c7
      clear hkd hkw hadb hN1
      generalize kindRow.getD q [] = kd at *
      generalize l[k] = x at *
      generalize hlne : rgT x = ln at *
      generalize textL (l.take k) = tx at *
      generalize hasDash (l.take k) = d at *
      have HJ := Lib.hid hjw
      clear hjw hlne
      have HX0 := Lib.hid (Blk.new wr 28 [.string (bstr x.id), .string (bstr x.pre), .int .i64 x.frm, .int .i64 x.to, .int .i64 x.st, .int .i64 x.en, .int .i64 x.made, .int .i64 ((q : Int) + 1), .string (bstr x.team)])
      have HBA := Lib.hid (HB.out.alloc HB.out.size (.cells #[.string (bstr x.id), .string (bstr x.pre), .int .i64 x.frm, .int .i64 x.to, .int .i64 x.st, .int .i64 x.en, .int .i64 x.made, .int .i64 ((q : Int) + 1), .string (bstr x.team)] 28))
      have hmL : (k : Int) < (l.length : Int) := by omega
      have hxz : wr.heap.size < (wr.alloc (.cells #[.string (bstr x.id), .string (bstr x.pre), .int .i64 x.frm, .int .i64 x.to, .int .i64 x.st, .int .i64 x.en, .int .i64 x.made, .int .i64 ((q : Int) + 1), .string (bstr x.team)] 28)).heap.size := by simp
      have k1 := HX0.out.cell 1
      simp only [List.getElem?_cons_zero, List.getElem?_cons_succ] at k1
      have HA1 : bstr ln ++ (⟨#[10]⟩ : ByteArray) = bstr (ln ++ [10]) := str_plusU ln [10]
      have HA2 : bstr tx ++ bstr (ln ++ [10]) = bstr (tx ++ (ln ++ [10])) := str_plusU _ _
      have s1 : (bstr ln).size = ln.length := rfl
      have s2 : (bstr (ln ++ [10])).size = ln.length + 1 := by rw [bstr_size]; simp
      have s3 : (bstr tx).size = tx.length := rfl
      have hwq2 : IntKind.i64.wrap (q : Int) = (q : Int) := IntWalk.i64_in _ (by omega)
      have KEEPX : Hid (∀ w', Below (wr.alloc (.cells #[.string (bstr x.id), .string (bstr x.pre), .int .i64 x.frm, .int .i64 x.to, .int .i64 x.st, .int .i64 x.en, .int .i64 x.made, .int .i64 ((q : Int) + 1), .string (bstr x.team)] 28)).heap.size (wr.alloc (.cells #[.string (bstr x.id), .string (bstr x.pre), .int .i64 x.frm, .int .i64 x.to, .int .i64 x.st, .int .i64 x.en, .int .i64 x.made, .int .i64 ((q : Int) + 1), .string (bstr x.team)] 28)) w' → (w'.cell? ⟨wr.heap.size, 0, none⟩ = some (.string (bstr x.id)) ∧ w'.cell? ⟨wr.heap.size, 1, none⟩ = some (.string (bstr x.pre)) ∧ w'.cell? ⟨wr.heap.size, 2, none⟩ = some (.int .i64 x.frm) ∧ w'.cell? ⟨wr.heap.size, 3, none⟩ = some (.int .i64 x.to) ∧ w'.cell? ⟨wr.heap.size, 4, none⟩ = some (.int .i64 x.st) ∧ w'.cell? ⟨wr.heap.size, 5, none⟩ = some (.int .i64 x.en) ∧ w'.cell? ⟨wr.heap.size, 6, none⟩ = some (.int .i64 x.made) ∧ w'.cell? ⟨wr.heap.size, 7, none⟩ = some (.int .i64 ((q : Int) + 1)) ∧ w'.cell? ⟨wr.heap.size, 8, none⟩ = some (.string (bstr x.team)))) := Lib.hid (fun w' hb => ⟨(hb.cell (p := ⟨_, 0, none⟩) hxz).trans (HX0.out.cell 0), (hb.cell (p := ⟨_, 1, none⟩) hxz).trans (HX0.out.cell 1), (hb.cell (p := ⟨_, 2, none⟩) hxz).trans (HX0.out.cell 2), (hb.cell (p := ⟨_, 3, none⟩) hxz).trans (HX0.out.cell 3), (hb.cell (p := ⟨_, 4, none⟩) hxz).trans (HX0.out.cell 4), (hb.cell (p := ⟨_, 5, none⟩) hxz).trans (HX0.out.cell 5), (hb.cell (p := ⟨_, 6, none⟩) hxz).trans (HX0.out.cell 6), (hb.cell (p := ⟨_, 7, none⟩) hxz).trans (HX0.out.cell 7), (hb.cell (p := ⟨_, 8, none⟩) hxz).trans (HX0.out.cell 8)⟩)
      have hc3 : d = true ∨ (d = false ∧ x.pre = [45]) ∨ (d = false ∧ x.pre ≠ [45]) := by
        cases d
        · by_cases e : x.pre = [45]
          · exact .inr (.inl ⟨rfl, e⟩)
          · exact .inr (.inr ⟨rfl, e⟩)
        · exact .inl rfl
      clear HX0
      rcases hc3 with rfl | ⟨rfl, hd⟩ | ⟨rfl, hd⟩
      · have HN2 := Lib.hid HN1.out
        rw [Bool.true_or] at HN2
        clear HN1
        go_wp2_with fail
        clear c0 c1 c2 c3 c4 c5 c6 c7 c8 k1
        generalize wr.alloc (.cells #[.string (bstr x.id), .string (bstr x.pre), .int .i64 x.frm, .int .i64 x.to, .int .i64 x.st, .int .i64 x.en, .int .i64 x.made, .int .i64 ((q : Int) + 1), .string (bstr x.team)] 28) = wa at *
        generalize wr.heap.size = xb at *
        refine wp_region_held_drew (S := fun w' => w'.cell? ⟨xb, 0, none⟩ = some (.string (bstr x.id)) ∧ w'.cell? ⟨xb, 1, none⟩ = some (.string (bstr x.pre)) ∧ w'.cell? ⟨xb, 2, none⟩ = some (.int .i64 x.frm) ∧ w'.cell? ⟨xb, 3, none⟩ = some (.int .i64 x.to) ∧ w'.cell? ⟨xb, 4, none⟩ = some (.int .i64 x.st) ∧ w'.cell? ⟨xb, 5, none⟩ = some (.int .i64 x.en) ∧ w'.cell? ⟨xb, 6, none⟩ = some (.int .i64 x.made) ∧ w'.cell? ⟨xb, 7, none⟩ = some (.int .i64 ((q : Int) + 1)) ∧ w'.cell? ⟨xb, 8, none⟩ = some (.string (bstr x.team))) (by kernel_rfl) (KEEPX.out _ (Below.drew (Below.refl wa.heap.size wa))) (fun hHeld => ?_)
        obtain ⟨wq, hwq⟩ : ∃ wq, wq = World.drew wa := ⟨_, rfl⟩
        have HBQ : Hid (Below wa.heap.size wa wq) := Lib.hid (by rw [hwq]; exact Below.drew (Below.refl wa.heap.size wa))
        rw [← hwq] at hHeld ⊢
        clear hwq
        refine wpAnyH_take (i := 0) (v := ?_) rfl (by kernel_rfl) (by kernel_rfl) (by kernel_rfl) (fun _ _ _ h => h) (Or.inl ⟨by rfl, ?_⟩) (by assumption) ?_
        rotate_left
        · (intro w hSw; (try (obtain ⟨q0, q1, q2, q3, q4, q5, q6, q7, q8⟩ := hSw)); go_simp; (try rw [if_neg (by omega)]); try with_reducible rfl)
        try simp only [List.getElem_toArray, List.getElem_cons_succ, List.getElem_cons_zero, Act.put, List.setIfInBounds_toArray, List.set_cons_zero, List.set_cons_succ]
        refine wpAnyH_take (i := 1) (v := ?_) rfl (by kernel_rfl) (by kernel_rfl) (by kernel_rfl) (fun _ _ _ h => h) (Or.inl ⟨by rfl, ?_⟩) (by assumption) ?_
        rotate_left
        · (intro w hSw; (try (obtain ⟨q0, q1, q2, q3, q4, q5, q6, q7, q8⟩ := hSw)); go_simp; (try rw [if_neg (by omega)]); try with_reducible rfl)
        try simp only [List.getElem_toArray, List.getElem_cons_succ, List.getElem_cons_zero, Act.put, List.setIfInBounds_toArray, List.set_cons_zero, List.set_cons_succ]
        refine wpAnyH_take (i := 2) (v := ?_) rfl (by kernel_rfl) (by kernel_rfl) (by kernel_rfl) (fun _ _ _ h => h) (Or.inl ⟨by rfl, ?_⟩) (by assumption) ?_
        rotate_left
        · (intro w hSw; (try (obtain ⟨q0, q1, q2, q3, q4, q5, q6, q7, q8⟩ := hSw)); go_simp; (try rw [if_neg (by omega)]); try with_reducible rfl)
        try simp only [List.getElem_toArray, List.getElem_cons_succ, List.getElem_cons_zero, Act.put, List.setIfInBounds_toArray, List.set_cons_zero, List.set_cons_succ]
        refine wpAnyH_take (i := 3) (v := ?_) rfl (by kernel_rfl) (by kernel_rfl) (by kernel_rfl) (fun _ _ _ h => h) (Or.inl ⟨by rfl, ?_⟩) (by assumption) ?_
        rotate_left
        · (intro w hSw; (try (obtain ⟨q0, q1, q2, q3, q4, q5, q6, q7, q8⟩ := hSw)); go_simp; (try rw [if_neg (by omega)]); try with_reducible rfl)
        try simp only [List.getElem_toArray, List.getElem_cons_succ, List.getElem_cons_zero, Act.put, List.setIfInBounds_toArray, List.set_cons_zero, List.set_cons_succ]
        refine wpAnyH_ready (rs := [4]) (by kernel_rfl) (by simp) ?_
        refine AllReadyH.cons rfl (fun K hK => ?_) AllReadyH.nil
        rw [if_pos (by rfl)]
        simp only [List.getElem_toArray, List.getElem_cons_succ, List.getElem_cons_zero]
        go_simp
        go_at_call 24
        refine (or_any x.pre wq).mono ?_
        rintro e wu1 ⟨rfl, hwu⟩
        subst hwu
        show K _ wu1
        refine hK.out _ _ (KEEPX.out wu1 HBQ.out) (fun hHeld => ?_)
        clear hK K
        try simp only [List.getElem_toArray, List.getElem_cons_succ, List.getElem_cons_zero, Act.put, List.setIfInBounds_toArray, List.set_cons_zero, List.set_cons_succ]
        refine wpAnyH_ready (rs := [5]) (by kernel_rfl) (by simp) ?_
        refine AllReadyH.cons rfl (fun K hK => ?_) AllReadyH.nil
        rw [if_pos (by rfl)]
        simp only [List.getElem_toArray, List.getElem_cons_succ, List.getElem_cons_zero]
        go_simp
        have hbb := (Below.refl wu1.heap.size wu1).alloc (Nat.le_refl _) (.cells #[.string (bstr x.id), .string (bstr (dashS x.pre))] 9)
        have B4 := Lib.hid (ext_trans HBQ.out hbb)
        clear hbb
        refine hK.out _ _ (KEEPX.out _ B4.out) (fun hHeld => ?_)
        clear hK K
        try simp only [List.getElem_toArray, List.getElem_cons_succ, List.getElem_cons_zero, Act.put, List.setIfInBounds_toArray, List.set_cons_zero, List.set_cons_succ]
        refine wpAnyH_take (i := 6) (v := ?_) rfl (by kernel_rfl) (by kernel_rfl) (by kernel_rfl) (fun _ _ _ h => h) (Or.inl ⟨by rfl, ?_⟩) (by assumption) ?_
        rotate_left
        · (intro w hSw; (try (obtain ⟨q0, q1, q2, q3, q4, q5, q6, q7, q8⟩ := hSw)); go_simp; (try rw [if_neg (by omega)]); try with_reducible rfl)
        try simp only [List.getElem_toArray, List.getElem_cons_succ, List.getElem_cons_zero, Act.put, List.setIfInBounds_toArray, List.set_cons_zero, List.set_cons_succ]
        refine wpAnyH_done (by kernel_rfl) ?_ _
        have HOR := Lib.hid (own_lit HBQ.out.size 9 ([.string (bstr x.id), .string (bstr (dashS x.pre))] : List Value) (by unfold maxLen; simp))
        have HBR := B4
        clear hHeld
        generalize hwz : wu1.alloc (.cells #[.string (bstr x.id), .string (bstr (dashS x.pre))] 9) = wR at *
        generalize wu1.heap.size = rb at *
        clear hwz
        have hrlt : rb < wR.heap.size := by have := (own_cellsT HOR.out (by simp)).2.1; exact this
        have KEEPR := KEEPX.out _ HBR.out
        obtain ⟨p0, p1, p2, p3, p4, p5, p6, p7, p8⟩ := KEEPR
        have HNB := Lib.hid (Blk.new wR 3 [.int .i64 x.frm, .int .i64 x.to, .int .i64 x.st, .int .i64 x.en, .int .i64 x.made])
        have hal := (Below.refl wR.heap.size wR).alloc (Nat.le_refl _) (.cells #[.int .i64 x.frm, .int .i64 x.to, .int .i64 x.st, .int .i64 x.en, .int .i64 x.made] 3)
        have HBN := Lib.hid (ext_trans HBR.out hal)
        have HON := Lib.hid (own_blwT HOR.out hal)
        clear hal
        go_wp2_with fail
        clear p0 p1 p2 p3 p4 p5 p6 p7 p8 HOR
        have hrn : rb ≠ wR.heap.size := Nat.ne_of_lt hrlt
        generalize wR.alloc (.cells #[.int .i64 x.frm, .int .i64 x.to, .int .i64 x.st, .int .i64 x.en, .int .i64 x.made] 3) = wN at *
        generalize wR.heap.size = nb at *
        go_loopw [9, 47] (fun vr vi wr => ∃ (j g c' : Nat), j ≤ 5 ∧ vi = .int .i64 j ∧ vr = .slice (some ⟨g, 0, none⟩) (2 + j) c' ∧ g ≠ nb ∧ Hid (wr.ownsRow wa.heap.size 9 1 (.slice (some ⟨g, 0, none⟩) (2 + j) c') (2 + j) (rowW x j)) ∧ Hid (Below wa.heap.size wa wr) ∧ Hid (Blk wr nb 3 ((numL x).map (.int .i64)))) (fun _ vi _ => 5 - (intOf vi).toNat)
        case atStart => exact ⟨0, rb, 2, by omega, rfl, rfl, hrn, HON, HBN, HNB⟩
        case round =>
          obtain ⟨j, g, c', hj, rfl, rfl, hgn, HOJ, HBJ, HNJ⟩ := hrel
          by_cases hlj : j < 5
          · have hlj' : (j : Int) < 5 := by omega
            have hnl : j < (numL x).length := hlj
            have c0 : wr.cell? ⟨nb, j, none⟩ = some (.int .i64 (numL x)[j]) := by rw [HNJ.out.cell j, List.getElem?_map, List.getElem?_eq_getElem hnl]; rfl
            have hrg := numL_ok HRO.out _ (List.getElem_mem hnl)
            have HRS := Lib.hid (rowW_succ x hlj)
            rw [List.getD_eq_getElem?_getD, List.getElem?_eq_getElem hnl, Option.getD_some] at HRS
            generalize (numL x)[j] = n at *
            go_wp2_with fail
            refine (itoa_any n _ (HTX.out _ (ext_trans HBA.out HBJ.out)) hrg.1 hrg.2).mono ?_
            rintro e w6 ⟨rfl, hb6⟩
            have HB6 := Lib.hid (ext_trans HBJ.out hb6)
            have HO6 := Lib.hid (own_blwT HOJ.out hb6)
            have HN6 := Lib.hid (HNJ.out.same (same_below hb6) HNJ.out.lt)
            clear hb6 c0 HOJ HBJ HNJ
            go_wp2_with (at_builtin; refine app_str rfl (.tmp 51) (.tmp 54) rfl HO6.out HB6.out.size rfl rfl (by omega) ?_; intro g1 cc1 w9 HO9 HG9 HB9 HL9)
            have HB10 := Lib.hid (HB9.out _ HB6.out)
            have HN10 := Lib.hid (HN6.out.same (grown_same HG9.out) ⟨HN6.out.lt, fun e => hgn (by injection e with e; exact e.symm)⟩)
            have HO10 := HO9.out
            rw [← HRS.out] at HO10
            have HO11 := Lib.hid HO10
            have hg1 : g1 ≠ nb := by
              have := HN6.out.lt
              rcases HL9.out with e | e
              · have e : some g = some g1 := e
                injection e with e
                omega
              · omega
            clear HO9 HO10 HG9 HB9 HL9 HN6 HB6 HO6
            go_wp2_with fail
            go_roundw
            case rel => exact ⟨j + 1, g1, cc1, by omega, by go_num, rfl, hg1, HO11, HB10, HN10⟩
            case measure => simp [intOf]; omega
          · obtain rfl : j = 5 := by omega
            rw [show ((5 : Nat) : Int) = (5 : Int) from rfl]
            clear HON HBN HNB HNJ hlj
            have HO5 := Lib.hid (show wr.ownsRow wa.heap.size 9 1 (.slice (some ⟨g, 0, none⟩) 7 c') 7 (rowW x 5) from HOJ.out)
            clear HOJ
            have HOJ := HO5
            clear HO5
            go_wp2_with fail
            refine wp_region_held_drew (S := fun w' => w'.cell? ⟨xb, 0, none⟩ = some (.string (bstr x.id)) ∧ w'.cell? ⟨xb, 1, none⟩ = some (.string (bstr x.pre)) ∧ w'.cell? ⟨xb, 2, none⟩ = some (.int .i64 x.frm) ∧ w'.cell? ⟨xb, 3, none⟩ = some (.int .i64 x.to) ∧ w'.cell? ⟨xb, 4, none⟩ = some (.int .i64 x.st) ∧ w'.cell? ⟨xb, 5, none⟩ = some (.int .i64 x.en) ∧ w'.cell? ⟨xb, 6, none⟩ = some (.int .i64 x.made) ∧ w'.cell? ⟨xb, 7, none⟩ = some (.int .i64 ((q : Int) + 1)) ∧ w'.cell? ⟨xb, 8, none⟩ = some (.string (bstr x.team))) (by kernel_rfl) (KEEPX.out _ (Below.drew (HBJ.out))) (fun hHeld => ?_)
            obtain ⟨wq, hwq⟩ : ∃ wq, wq = World.drew wr := ⟨_, rfl⟩
            have HBQ : Hid (Below wa.heap.size wa wq) := Lib.hid (by rw [hwq]; exact Below.drew (HBJ.out))
            rw [← hwq] at hHeld ⊢
            have HOQ := Lib.hid (own_blwT HOJ.out (show Below wr.heap.size wr wq by rw [hwq]; exact Below.drew (Below.refl _ _)))
            clear hwq
            refine wpAnyH_take (i := 0) (v := ?_) rfl (by kernel_rfl) (by kernel_rfl) (by kernel_rfl) (fun _ _ _ h => h) (Or.inl ⟨by rfl, ?_⟩) (by assumption) ?_
            rotate_left
            · (intro w hSw; (try (obtain ⟨q0, q1, q2, q3, q4, q5, q6, q7, q8⟩ := hSw)); go_simp; (try rw [if_neg (by omega)]); (try rw [hwq2]); try with_reducible rfl)
            try simp only [List.getElem_toArray, List.getElem_cons_succ, List.getElem_cons_zero, Act.put, List.setIfInBounds_toArray, List.set_cons_zero, List.set_cons_succ]
            refine wpAnyH_take (i := 1) (v := ?_) rfl (by kernel_rfl) (by kernel_rfl) (by kernel_rfl) (fun _ _ _ h => h) (Or.inl ⟨by rfl, ?_⟩) (by assumption) ?_
            rotate_left
            · (intro w hSw; (try (obtain ⟨q0, q1, q2, q3, q4, q5, q6, q7, q8⟩ := hSw)); go_simp; (try rw [if_neg (by omega)]); (try rw [hwq2]); try with_reducible rfl)
            try simp only [List.getElem_toArray, List.getElem_cons_succ, List.getElem_cons_zero, Act.put, List.setIfInBounds_toArray, List.set_cons_zero, List.set_cons_succ]
            refine wpAnyH_take (i := 3) (v := ?_) rfl (by kernel_rfl) (by kernel_rfl) (by kernel_rfl) (fun _ _ _ h => h) (Or.inl ⟨by rfl, ?_⟩) (by assumption) ?_
            rotate_left
            · (intro w hSw; (try (obtain ⟨q0, q1, q2, q3, q4, q5, q6, q7, q8⟩ := hSw)); go_simp; (try rw [if_neg (by omega)]); (try rw [hwq2]); try with_reducible rfl)
            try simp only [List.getElem_toArray, List.getElem_cons_succ, List.getElem_cons_zero, Act.put, List.setIfInBounds_toArray, List.set_cons_zero, List.set_cons_succ]
            refine wpAnyH_take (i := 4) (v := ?_) rfl (by kernel_rfl) (by kernel_rfl) (by kernel_rfl) (fun _ _ _ h => h) (Or.inl ⟨by rfl, ?_⟩) (by assumption) ?_
            rotate_left
            · (intro w hSw; (try (obtain ⟨q0, q1, q2, q3, q4, q5, q6, q7, q8⟩ := hSw)); go_simp; (try rw [if_neg (by omega)]); (try rw [hwq2]); try with_reducible rfl)
            try simp only [List.getElem_toArray, List.getElem_cons_succ, List.getElem_cons_zero, Act.put, List.setIfInBounds_toArray, List.set_cons_zero, List.set_cons_succ]
            refine wpAnyH_take (i := 5) (v := ?_) rfl (by kernel_rfl) (by kernel_rfl) (by kernel_rfl) (fun _ _ _ h => h) (Or.inl ⟨by rfl, ?_⟩) (by assumption) ?_
            rotate_left
            · (intro w hSw; (try (obtain ⟨q0, q1, q2, q3, q4, q5, q6, q7, q8⟩ := hSw)); go_simp; (try rw [if_neg (by omega)]); (try rw [hwq2]); try with_reducible rfl)
            try simp only [List.getElem_toArray, List.getElem_cons_succ, List.getElem_cons_zero, Act.put, List.setIfInBounds_toArray, List.set_cons_zero, List.set_cons_succ]
            refine wpAnyH_take (i := 8) (v := ?_) rfl (by kernel_rfl) (by kernel_rfl) (by kernel_rfl) (fun _ _ _ h => h) (Or.inl ⟨by rfl, ?_⟩) (by assumption) ?_
            rotate_left
            · (intro w hSw; (try (obtain ⟨q0, q1, q2, q3, q4, q5, q6, q7, q8⟩ := hSw)); go_simp; (try rw [if_neg (by omega)]); (try rw [hwq2]); try with_reducible rfl)
            try simp only [List.getElem_toArray, List.getElem_cons_succ, List.getElem_cons_zero, Act.put, List.setIfInBounds_toArray, List.set_cons_zero, List.set_cons_succ]
            refine wpAnyH_take (i := 9) (v := ?_) rfl (by kernel_rfl) (by kernel_rfl) (by kernel_rfl) (fun _ _ _ h => h) (Or.inl ⟨by rfl, ?_⟩) (by assumption) ?_
            rotate_left
            · (intro w hSw; (try (obtain ⟨q0, q1, q2, q3, q4, q5, q6, q7, q8⟩ := hSw)); go_simp; (try rw [if_neg (by omega)]); (try rw [hwq2]); try with_reducible rfl)
            try simp only [List.getElem_toArray, List.getElem_cons_succ, List.getElem_cons_zero, Act.put, List.setIfInBounds_toArray, List.set_cons_zero, List.set_cons_succ]
            refine wpAnyH_ready (rs := [2]) (by kernel_rfl) (by simp) ?_
            refine AllReadyH.cons rfl (fun K hK => ?_) AllReadyH.nil
            rw [if_pos (by rfl)]
            simp only [List.getElem_toArray, List.getElem_cons_succ, List.getElem_cons_zero]
            go_simp
            go_at_call 25
            refine (kindSplit_any wq (HGX.out _ (ext_trans HBA.out HBQ.out))).mono ?_
            rintro e wk5 ⟨rfl, hwk⟩
            have hbk := (Below.refl wq.heap.size wq).alloc (Nat.le_refl _) (.cells (kindRow.map fun x => Value.string (bstr x)).toArray 9)
            have hkk := Blk.new wq 9 (kindRow.map fun x => Value.string (bstr x))
            rw [← hwk] at hbk hkk
            clear hwk
            have B8 := Lib.hid (ext_trans HBQ.out hbk)
            have HO9 := Lib.hid (own_blwT HOQ.out hbk)
            have HK6 := Lib.hid hkk
            clear hbk hkk
            generalize wq.heap.size = kb7 at *
            show K _ wk5
            refine hK.out _ _ (KEEPX.out wk5 B8.out) (fun hHeld => ?_)
            clear hK K
            try simp only [List.getElem_toArray, List.getElem_cons_succ, List.getElem_cons_zero, Act.put, List.setIfInBounds_toArray, List.set_cons_zero, List.set_cons_succ]
            refine wpAnyH_take (i := 6) (v := ?_) rfl (by kernel_rfl) (by kernel_rfl) (by kernel_rfl) (fun _ _ _ h => h) (Or.inl ⟨by rfl, ?_⟩) (by assumption) ?_
            rotate_left
            · (intro w hSw; (try (obtain ⟨q0, q1, q2, q3, q4, q5, q6, q7, q8⟩ := hSw)); go_simp; (try rw [if_neg (by omega)]); (try rw [hwq2]); (try rw [if_pos (by omega)]); (try rw [Int.toNat_natCast]); try with_reducible rfl)
            try simp only [List.getElem_toArray, List.getElem_cons_succ, List.getElem_cons_zero, Act.put, List.setIfInBounds_toArray, List.set_cons_zero, List.set_cons_succ]
            refine wpAnyH_ready (rs := [7, 10]) (by kernel_rfl) (by simp) ?_
            refine AllReadyH.cons rfl (fun K hK => ?_) (AllReadyH.cons rfl (fun K hK => ?_) AllReadyH.nil)
            · rw [if_pos (by rfl)]
              simp only [List.getElem_toArray, List.getElem_cons_succ, List.getElem_cons_zero]
              have kc : wk5.cell? ⟨kb7, q, none⟩ = some (.string (bstr kd)) := HKC.out _ _ HK6.out
              go_simp
              refine hK.out _ _ (KEEPX.out wk5 B8.out) (fun hHeld => ?_)
              clear hK K kc
              try simp only [List.getElem_toArray, List.getElem_cons_succ, List.getElem_cons_zero, Act.put, List.setIfInBounds_toArray, List.set_cons_zero, List.set_cons_succ]
              refine wpAnyH_ready (rs := [10]) (by kernel_rfl) (by simp) ?_
              refine AllReadyH.cons rfl (fun K hK => ?_) AllReadyH.nil
              rw [if_pos (by rfl)]
              simp only [List.getElem_toArray, List.getElem_cons_succ, List.getElem_cons_zero]
              go_simp
              go_at_call 24
              refine (or_any x.team wk5).mono ?_
              rintro e wu10 ⟨rfl, hwu⟩
              subst hwu
              show K _ wu10
              refine hK.out _ _ (KEEPX.out wu10 B8.out) (fun hHeld => ?_)
              clear hK K
              try simp only [List.getElem_toArray, List.getElem_cons_succ, List.getElem_cons_zero, Act.put, List.setIfInBounds_toArray, List.set_cons_zero, List.set_cons_succ]
              refine wpAnyH_ready (rs := [11]) (by kernel_rfl) (by simp) ?_
              refine AllReadyH.cons rfl (fun K hK => ?_) AllReadyH.nil
              rw [if_pos (by rfl)]
              simp only [List.getElem_toArray, List.getElem_cons_succ, List.getElem_cons_zero]
              go_simp
              have hbb := (Below.refl wu10.heap.size wu10).alloc (Nat.le_refl _) (.cells #[.string (bstr kd), .string (bstr (dashS x.team))] 9)
              have B13 := Lib.hid (ext_trans B8.out hbb)
              clear hbb
              refine hK.out _ _ (KEEPX.out _ B13.out) (fun hHeld => ?_)
              clear hK K
              try simp only [List.getElem_toArray, List.getElem_cons_succ, List.getElem_cons_zero, Act.put, List.setIfInBounds_toArray, List.set_cons_zero, List.set_cons_succ]
              refine wpAnyH_ready (rs := [12]) (by kernel_rfl) (by simp) ?_
              refine AllReadyH.cons rfl (fun K hK => ?_) AllReadyH.nil
              refine step_app_new (w := wu10) (by rfl) (.tmp 58) (.tmp 68) 57 (by rfl) 9 (.string (bstr [])) 1 16 Tryz.underlying57 string_info rfl (by decide) (m := 2) [.string (bstr kd), .string (bstr (dashS x.team))] 0 rfl HO9.out B8.out.size (by rfl) (by rfl) (by rfl) (by decide) (by simp [Value.oneCell']) (by unfold maxLen; omega) (by omega) ?_
              intro g9 c9 w9 HO9 HG9 HE9 HL9
              have HB9 := Lib.hid (HE9.out _ B8.out)
              refine hK.out _ _ (KEEPX.out _ HB9.out) (fun hHeld => ?_)
              clear hK K HG9 HE9 HL9
              try simp only [List.getElem_toArray, List.getElem_cons_succ, List.getElem_cons_zero, Act.put, List.setIfInBounds_toArray, List.set_cons_zero, List.set_cons_succ]
              refine wpAnyH_ready (rs := [13]) (by kernel_rfl) (by simp) ?_
              refine AllReadyH.cons rfl (fun K hK => ?_) AllReadyH.nil
              rw [if_pos (by rfl)]
              simp only [List.getElem_toArray, List.getElem_cons_succ, List.getElem_cons_zero]
              go_simp
              obtain ⟨hc9, hg9, hcl9⟩ := own_cellsT HO9.out (by decide)
              have hjn := joinW_any g9 c9 [x.id, dashS x.pre, Lib.itoa x.frm, Lib.itoa x.to, Lib.itoa x.st, Lib.itoa x.en, Lib.itoa x.made, kd, dashS x.team] w9 (fun j hj => by rw [hcl9 j hj]; rfl) hg9 (by simp) hc9 (by rw [HJ.out]; omega)
              change Calls _ _ #[.slice (some ⟨g9, 0, none⟩) 9 c9, _] _ _ at hjn
              rw [HJ.out] at hjn
              clear hcl9
              go_at_call 19
              refine hjn.mono ?_
              clear hjn
              rintro e wj14 ⟨rfl, hbj⟩
              have B15 := Lib.hid (ext_trans HB9.out hbj)
              clear hbj
              show K _ wj14
              refine hK.out _ _ (KEEPX.out wj14 B15.out) (fun hHeld => ?_)
              clear hK K
              try simp only [List.getElem_toArray, List.getElem_cons_succ, List.getElem_cons_zero, Act.put, List.setIfInBounds_toArray, List.set_cons_zero, List.set_cons_succ]
              refine wpAnyH_take (i := 14) (v := ?_) rfl (by kernel_rfl) (by kernel_rfl) (by kernel_rfl) (fun _ _ _ h => h) (Or.inl ⟨by rfl, ?_⟩) (by assumption) ?_
              rotate_left
              · (intro w hSw; (try (obtain ⟨q0, q1, q2, q3, q4, q5, q6, q7, q8⟩ := hSw)); go_simp; (try rw [if_neg (by omega)]); try with_reducible rfl)
              try simp only [List.getElem_toArray, List.getElem_cons_succ, List.getElem_cons_zero, Act.put, List.setIfInBounds_toArray, List.set_cons_zero, List.set_cons_succ]
              refine wpAnyH_take (i := 15) (v := ?_) rfl (by kernel_rfl) (by kernel_rfl) (by kernel_rfl) (fun _ _ _ h => h) (Or.inl ⟨by rfl, ?_⟩) (by assumption) ?_
              rotate_left
              · (intro w hSw; (try (obtain ⟨q0, q1, q2, q3, q4, q5, q6, q7, q8⟩ := hSw)); go_simp; (try rw [if_neg (by omega)]); try with_reducible rfl)
              try simp only [List.getElem_toArray, List.getElem_cons_succ, List.getElem_cons_zero, Act.put, List.setIfInBounds_toArray, List.set_cons_zero, List.set_cons_succ]
              refine wpAnyH_take (i := 16) (v := ?_) rfl (by kernel_rfl) (by kernel_rfl) (by kernel_rfl) (fun _ _ _ h => h) (Or.inl ⟨by rfl, ?_⟩) (by assumption) ?_
              rotate_left
              · (intro w hSw; (try (obtain ⟨q0, q1, q2, q3, q4, q5, q6, q7, q8⟩ := hSw)); go_simp; (try rw [if_neg (by omega)]); try with_reducible rfl)
              try simp only [List.getElem_toArray, List.getElem_cons_succ, List.getElem_cons_zero, Act.put, List.setIfInBounds_toArray, List.set_cons_zero, List.set_cons_succ]
              refine wpAnyH_done (by kernel_rfl) ?_ _
              have HBZ := Lib.hid (ext_trans HBA.out B15.out)
              generalize wj14 = wz at *
              clear hHeld KEEPX
              go_wp2_with fail
              go_roundw
              case rel => exact ⟨k + 1, by omega, by rw [HSU.out], by rw [HN2.out], by go_num, HBZ⟩
              case measure => simp [intOf]; omega
            · rw [if_pos (by rfl)]
              simp only [List.getElem_toArray, List.getElem_cons_succ, List.getElem_cons_zero]
              go_simp
              go_at_call 24
              refine (or_any x.team wk5).mono ?_
              rintro e wu16 ⟨rfl, hwu⟩
              subst hwu
              show K _ wu16
              refine hK.out _ _ (KEEPX.out wu16 B8.out) (fun hHeld => ?_)
              clear hK K
              try simp only [List.getElem_toArray, List.getElem_cons_succ, List.getElem_cons_zero, Act.put, List.setIfInBounds_toArray, List.set_cons_zero, List.set_cons_succ]
              refine wpAnyH_ready (rs := [7]) (by kernel_rfl) (by simp) ?_
              refine AllReadyH.cons rfl (fun K hK => ?_) AllReadyH.nil
              rw [if_pos (by rfl)]
              simp only [List.getElem_toArray, List.getElem_cons_succ, List.getElem_cons_zero]
              have kc : wu16.cell? ⟨kb7, q, none⟩ = some (.string (bstr kd)) := HKC.out _ _ HK6.out
              go_simp
              refine hK.out _ _ (KEEPX.out wu16 B8.out) (fun hHeld => ?_)
              clear hK K kc
              try simp only [List.getElem_toArray, List.getElem_cons_succ, List.getElem_cons_zero, Act.put, List.setIfInBounds_toArray, List.set_cons_zero, List.set_cons_succ]
              refine wpAnyH_ready (rs := [11]) (by kernel_rfl) (by simp) ?_
              refine AllReadyH.cons rfl (fun K hK => ?_) AllReadyH.nil
              rw [if_pos (by rfl)]
              simp only [List.getElem_toArray, List.getElem_cons_succ, List.getElem_cons_zero]
              go_simp
              have hbb := (Below.refl wu16.heap.size wu16).alloc (Nat.le_refl _) (.cells #[.string (bstr kd), .string (bstr (dashS x.team))] 9)
              have B19 := Lib.hid (ext_trans B8.out hbb)
              clear hbb
              refine hK.out _ _ (KEEPX.out _ B19.out) (fun hHeld => ?_)
              clear hK K
              try simp only [List.getElem_toArray, List.getElem_cons_succ, List.getElem_cons_zero, Act.put, List.setIfInBounds_toArray, List.set_cons_zero, List.set_cons_succ]
              refine wpAnyH_ready (rs := [12]) (by kernel_rfl) (by simp) ?_
              refine AllReadyH.cons rfl (fun K hK => ?_) AllReadyH.nil
              refine step_app_new (w := wu16) (by rfl) (.tmp 58) (.tmp 68) 57 (by rfl) 9 (.string (bstr [])) 1 16 Tryz.underlying57 string_info rfl (by decide) (m := 2) [.string (bstr kd), .string (bstr (dashS x.team))] 0 rfl HO9.out B8.out.size (by rfl) (by rfl) (by rfl) (by decide) (by simp [Value.oneCell']) (by unfold maxLen; omega) (by omega) ?_
              intro g9 c9 w9 HO9 HG9 HE9 HL9
              have HB9 := Lib.hid (HE9.out _ B8.out)
              refine hK.out _ _ (KEEPX.out _ HB9.out) (fun hHeld => ?_)
              clear hK K HG9 HE9 HL9
              try simp only [List.getElem_toArray, List.getElem_cons_succ, List.getElem_cons_zero, Act.put, List.setIfInBounds_toArray, List.set_cons_zero, List.set_cons_succ]
              refine wpAnyH_ready (rs := [13]) (by kernel_rfl) (by simp) ?_
              refine AllReadyH.cons rfl (fun K hK => ?_) AllReadyH.nil
              rw [if_pos (by rfl)]
              simp only [List.getElem_toArray, List.getElem_cons_succ, List.getElem_cons_zero]
              go_simp
              obtain ⟨hc9, hg9, hcl9⟩ := own_cellsT HO9.out (by decide)
              have hjn := joinW_any g9 c9 [x.id, dashS x.pre, Lib.itoa x.frm, Lib.itoa x.to, Lib.itoa x.st, Lib.itoa x.en, Lib.itoa x.made, kd, dashS x.team] w9 (fun j hj => by rw [hcl9 j hj]; rfl) hg9 (by simp) hc9 (by rw [HJ.out]; omega)
              change Calls _ _ #[.slice (some ⟨g9, 0, none⟩) 9 c9, _] _ _ at hjn
              rw [HJ.out] at hjn
              clear hcl9
              go_at_call 19
              refine hjn.mono ?_
              clear hjn
              rintro e wj20 ⟨rfl, hbj⟩
              have B21 := Lib.hid (ext_trans HB9.out hbj)
              clear hbj
              show K _ wj20
              refine hK.out _ _ (KEEPX.out wj20 B21.out) (fun hHeld => ?_)
              clear hK K
              try simp only [List.getElem_toArray, List.getElem_cons_succ, List.getElem_cons_zero, Act.put, List.setIfInBounds_toArray, List.set_cons_zero, List.set_cons_succ]
              refine wpAnyH_take (i := 14) (v := ?_) rfl (by kernel_rfl) (by kernel_rfl) (by kernel_rfl) (fun _ _ _ h => h) (Or.inl ⟨by rfl, ?_⟩) (by assumption) ?_
              rotate_left
              · (intro w hSw; (try (obtain ⟨q0, q1, q2, q3, q4, q5, q6, q7, q8⟩ := hSw)); go_simp; (try rw [if_neg (by omega)]); try with_reducible rfl)
              try simp only [List.getElem_toArray, List.getElem_cons_succ, List.getElem_cons_zero, Act.put, List.setIfInBounds_toArray, List.set_cons_zero, List.set_cons_succ]
              refine wpAnyH_take (i := 15) (v := ?_) rfl (by kernel_rfl) (by kernel_rfl) (by kernel_rfl) (fun _ _ _ h => h) (Or.inl ⟨by rfl, ?_⟩) (by assumption) ?_
              rotate_left
              · (intro w hSw; (try (obtain ⟨q0, q1, q2, q3, q4, q5, q6, q7, q8⟩ := hSw)); go_simp; (try rw [if_neg (by omega)]); try with_reducible rfl)
              try simp only [List.getElem_toArray, List.getElem_cons_succ, List.getElem_cons_zero, Act.put, List.setIfInBounds_toArray, List.set_cons_zero, List.set_cons_succ]
              refine wpAnyH_take (i := 16) (v := ?_) rfl (by kernel_rfl) (by kernel_rfl) (by kernel_rfl) (fun _ _ _ h => h) (Or.inl ⟨by rfl, ?_⟩) (by assumption) ?_
              rotate_left
              · (intro w hSw; (try (obtain ⟨q0, q1, q2, q3, q4, q5, q6, q7, q8⟩ := hSw)); go_simp; (try rw [if_neg (by omega)]); try with_reducible rfl)
              try simp only [List.getElem_toArray, List.getElem_cons_succ, List.getElem_cons_zero, Act.put, List.setIfInBounds_toArray, List.set_cons_zero, List.set_cons_succ]
              refine wpAnyH_done (by kernel_rfl) ?_ _
              have HBZ := Lib.hid (ext_trans HBA.out B21.out)
              generalize wj20 = wz at *
              clear hHeld KEEPX
              go_wp2_with fail
              go_roundw
              case rel => exact ⟨k + 1, by omega, by rw [HSU.out], by rw [HN2.out], by go_num, HBZ⟩
              case measure => simp [intOf]; omega
      · have HN2 := Lib.hid HN1.out
        rw [hd] at HN2
        have hde : ((bstr x.pre).toList == [45]) = true := by rw [bstr_toList, hd]; rfl
        change Hid (_ = true) at HN2
        clear HN1 hd
        go_wp2_with fail
        clear c0 c1 c2 c3 c4 c5 c6 c7 c8 k1
        generalize wr.alloc (.cells #[.string (bstr x.id), .string (bstr x.pre), .int .i64 x.frm, .int .i64 x.to, .int .i64 x.st, .int .i64 x.en, .int .i64 x.made, .int .i64 ((q : Int) + 1), .string (bstr x.team)] 28) = wa at *
        generalize wr.heap.size = xb at *
        refine wp_region_held_drew (S := fun w' => w'.cell? ⟨xb, 0, none⟩ = some (.string (bstr x.id)) ∧ w'.cell? ⟨xb, 1, none⟩ = some (.string (bstr x.pre)) ∧ w'.cell? ⟨xb, 2, none⟩ = some (.int .i64 x.frm) ∧ w'.cell? ⟨xb, 3, none⟩ = some (.int .i64 x.to) ∧ w'.cell? ⟨xb, 4, none⟩ = some (.int .i64 x.st) ∧ w'.cell? ⟨xb, 5, none⟩ = some (.int .i64 x.en) ∧ w'.cell? ⟨xb, 6, none⟩ = some (.int .i64 x.made) ∧ w'.cell? ⟨xb, 7, none⟩ = some (.int .i64 ((q : Int) + 1)) ∧ w'.cell? ⟨xb, 8, none⟩ = some (.string (bstr x.team))) (by kernel_rfl) (KEEPX.out _ (Below.drew (Below.refl wa.heap.size wa))) (fun hHeld => ?_)
        obtain ⟨wq, hwq⟩ : ∃ wq, wq = World.drew wa := ⟨_, rfl⟩
        have HBQ : Hid (Below wa.heap.size wa wq) := Lib.hid (by rw [hwq]; exact Below.drew (Below.refl wa.heap.size wa))
        rw [← hwq] at hHeld ⊢
        clear hwq
        refine wpAnyH_take (i := 0) (v := ?_) rfl (by kernel_rfl) (by kernel_rfl) (by kernel_rfl) (fun _ _ _ h => h) (Or.inl ⟨by rfl, ?_⟩) (by assumption) ?_
        rotate_left
        · (intro w hSw; (try (obtain ⟨q0, q1, q2, q3, q4, q5, q6, q7, q8⟩ := hSw)); go_simp; (try rw [if_neg (by omega)]); try with_reducible rfl)
        try simp only [List.getElem_toArray, List.getElem_cons_succ, List.getElem_cons_zero, Act.put, List.setIfInBounds_toArray, List.set_cons_zero, List.set_cons_succ]
        refine wpAnyH_take (i := 1) (v := ?_) rfl (by kernel_rfl) (by kernel_rfl) (by kernel_rfl) (fun _ _ _ h => h) (Or.inl ⟨by rfl, ?_⟩) (by assumption) ?_
        rotate_left
        · (intro w hSw; (try (obtain ⟨q0, q1, q2, q3, q4, q5, q6, q7, q8⟩ := hSw)); go_simp; (try rw [if_neg (by omega)]); try with_reducible rfl)
        try simp only [List.getElem_toArray, List.getElem_cons_succ, List.getElem_cons_zero, Act.put, List.setIfInBounds_toArray, List.set_cons_zero, List.set_cons_succ]
        refine wpAnyH_take (i := 2) (v := ?_) rfl (by kernel_rfl) (by kernel_rfl) (by kernel_rfl) (fun _ _ _ h => h) (Or.inl ⟨by rfl, ?_⟩) (by assumption) ?_
        rotate_left
        · (intro w hSw; (try (obtain ⟨q0, q1, q2, q3, q4, q5, q6, q7, q8⟩ := hSw)); go_simp; (try rw [if_neg (by omega)]); try with_reducible rfl)
        try simp only [List.getElem_toArray, List.getElem_cons_succ, List.getElem_cons_zero, Act.put, List.setIfInBounds_toArray, List.set_cons_zero, List.set_cons_succ]
        refine wpAnyH_take (i := 3) (v := ?_) rfl (by kernel_rfl) (by kernel_rfl) (by kernel_rfl) (fun _ _ _ h => h) (Or.inl ⟨by rfl, ?_⟩) (by assumption) ?_
        rotate_left
        · (intro w hSw; (try (obtain ⟨q0, q1, q2, q3, q4, q5, q6, q7, q8⟩ := hSw)); go_simp; (try rw [if_neg (by omega)]); try with_reducible rfl)
        try simp only [List.getElem_toArray, List.getElem_cons_succ, List.getElem_cons_zero, Act.put, List.setIfInBounds_toArray, List.set_cons_zero, List.set_cons_succ]
        refine wpAnyH_ready (rs := [4]) (by kernel_rfl) (by simp) ?_
        refine AllReadyH.cons rfl (fun K hK => ?_) AllReadyH.nil
        rw [if_pos (by rfl)]
        simp only [List.getElem_toArray, List.getElem_cons_succ, List.getElem_cons_zero]
        go_simp
        go_at_call 24
        refine (or_any x.pre wq).mono ?_
        rintro e wu1 ⟨rfl, hwu⟩
        subst hwu
        show K _ wu1
        refine hK.out _ _ (KEEPX.out wu1 HBQ.out) (fun hHeld => ?_)
        clear hK K
        try simp only [List.getElem_toArray, List.getElem_cons_succ, List.getElem_cons_zero, Act.put, List.setIfInBounds_toArray, List.set_cons_zero, List.set_cons_succ]
        refine wpAnyH_ready (rs := [5]) (by kernel_rfl) (by simp) ?_
        refine AllReadyH.cons rfl (fun K hK => ?_) AllReadyH.nil
        rw [if_pos (by rfl)]
        simp only [List.getElem_toArray, List.getElem_cons_succ, List.getElem_cons_zero]
        go_simp
        have hbb := (Below.refl wu1.heap.size wu1).alloc (Nat.le_refl _) (.cells #[.string (bstr x.id), .string (bstr (dashS x.pre))] 9)
        have B4 := Lib.hid (ext_trans HBQ.out hbb)
        clear hbb
        refine hK.out _ _ (KEEPX.out _ B4.out) (fun hHeld => ?_)
        clear hK K
        try simp only [List.getElem_toArray, List.getElem_cons_succ, List.getElem_cons_zero, Act.put, List.setIfInBounds_toArray, List.set_cons_zero, List.set_cons_succ]
        refine wpAnyH_take (i := 6) (v := ?_) rfl (by kernel_rfl) (by kernel_rfl) (by kernel_rfl) (fun _ _ _ h => h) (Or.inl ⟨by rfl, ?_⟩) (by assumption) ?_
        rotate_left
        · (intro w hSw; (try (obtain ⟨q0, q1, q2, q3, q4, q5, q6, q7, q8⟩ := hSw)); go_simp; (try rw [if_neg (by omega)]); try with_reducible rfl)
        try simp only [List.getElem_toArray, List.getElem_cons_succ, List.getElem_cons_zero, Act.put, List.setIfInBounds_toArray, List.set_cons_zero, List.set_cons_succ]
        refine wpAnyH_done (by kernel_rfl) ?_ _
        have HOR := Lib.hid (own_lit HBQ.out.size 9 ([.string (bstr x.id), .string (bstr (dashS x.pre))] : List Value) (by unfold maxLen; simp))
        have HBR := B4
        clear hHeld
        generalize hwz : wu1.alloc (.cells #[.string (bstr x.id), .string (bstr (dashS x.pre))] 9) = wR at *
        generalize wu1.heap.size = rb at *
        clear hwz
        have hrlt : rb < wR.heap.size := by have := (own_cellsT HOR.out (by simp)).2.1; exact this
        have KEEPR := KEEPX.out _ HBR.out
        obtain ⟨p0, p1, p2, p3, p4, p5, p6, p7, p8⟩ := KEEPR
        have HNB := Lib.hid (Blk.new wR 3 [.int .i64 x.frm, .int .i64 x.to, .int .i64 x.st, .int .i64 x.en, .int .i64 x.made])
        have hal := (Below.refl wR.heap.size wR).alloc (Nat.le_refl _) (.cells #[.int .i64 x.frm, .int .i64 x.to, .int .i64 x.st, .int .i64 x.en, .int .i64 x.made] 3)
        have HBN := Lib.hid (ext_trans HBR.out hal)
        have HON := Lib.hid (own_blwT HOR.out hal)
        clear hal
        go_wp2_with fail
        clear p0 p1 p2 p3 p4 p5 p6 p7 p8 HOR
        have hrn : rb ≠ wR.heap.size := Nat.ne_of_lt hrlt
        generalize wR.alloc (.cells #[.int .i64 x.frm, .int .i64 x.to, .int .i64 x.st, .int .i64 x.en, .int .i64 x.made] 3) = wN at *
        generalize wR.heap.size = nb at *
        go_loopw [9, 47] (fun vr vi wr => ∃ (j g c' : Nat), j ≤ 5 ∧ vi = .int .i64 j ∧ vr = .slice (some ⟨g, 0, none⟩) (2 + j) c' ∧ g ≠ nb ∧ Hid (wr.ownsRow wa.heap.size 9 1 (.slice (some ⟨g, 0, none⟩) (2 + j) c') (2 + j) (rowW x j)) ∧ Hid (Below wa.heap.size wa wr) ∧ Hid (Blk wr nb 3 ((numL x).map (.int .i64)))) (fun _ vi _ => 5 - (intOf vi).toNat)
        case atStart => exact ⟨0, rb, 2, by omega, rfl, rfl, hrn, HON, HBN, HNB⟩
        case round =>
          obtain ⟨j, g, c', hj, rfl, rfl, hgn, HOJ, HBJ, HNJ⟩ := hrel
          by_cases hlj : j < 5
          · have hlj' : (j : Int) < 5 := by omega
            have hnl : j < (numL x).length := hlj
            have c0 : wr.cell? ⟨nb, j, none⟩ = some (.int .i64 (numL x)[j]) := by rw [HNJ.out.cell j, List.getElem?_map, List.getElem?_eq_getElem hnl]; rfl
            have hrg := numL_ok HRO.out _ (List.getElem_mem hnl)
            have HRS := Lib.hid (rowW_succ x hlj)
            rw [List.getD_eq_getElem?_getD, List.getElem?_eq_getElem hnl, Option.getD_some] at HRS
            generalize (numL x)[j] = n at *
            go_wp2_with fail
            refine (itoa_any n _ (HTX.out _ (ext_trans HBA.out HBJ.out)) hrg.1 hrg.2).mono ?_
            rintro e w6 ⟨rfl, hb6⟩
            have HB6 := Lib.hid (ext_trans HBJ.out hb6)
            have HO6 := Lib.hid (own_blwT HOJ.out hb6)
            have HN6 := Lib.hid (HNJ.out.same (same_below hb6) HNJ.out.lt)
            clear hb6 c0 HOJ HBJ HNJ
            go_wp2_with (at_builtin; refine app_str rfl (.tmp 51) (.tmp 54) rfl HO6.out HB6.out.size rfl rfl (by omega) ?_; intro g1 cc1 w9 HO9 HG9 HB9 HL9)
            have HB10 := Lib.hid (HB9.out _ HB6.out)
            have HN10 := Lib.hid (HN6.out.same (grown_same HG9.out) ⟨HN6.out.lt, fun e => hgn (by injection e with e; exact e.symm)⟩)
            have HO10 := HO9.out
            rw [← HRS.out] at HO10
            have HO11 := Lib.hid HO10
            have hg1 : g1 ≠ nb := by
              have := HN6.out.lt
              rcases HL9.out with e | e
              · have e : some g = some g1 := e
                injection e with e
                omega
              · omega
            clear HO9 HO10 HG9 HB9 HL9 HN6 HB6 HO6
            go_wp2_with fail
            go_roundw
            case rel => exact ⟨j + 1, g1, cc1, by omega, by go_num, rfl, hg1, HO11, HB10, HN10⟩
            case measure => simp [intOf]; omega
          · obtain rfl : j = 5 := by omega
            rw [show ((5 : Nat) : Int) = (5 : Int) from rfl]
            clear HON HBN HNB HNJ hlj
            have HO5 := Lib.hid (show wr.ownsRow wa.heap.size 9 1 (.slice (some ⟨g, 0, none⟩) 7 c') 7 (rowW x 5) from HOJ.out)
            clear HOJ
            have HOJ := HO5
            clear HO5
            go_wp2_with fail
            refine wp_region_held_drew (S := fun w' => w'.cell? ⟨xb, 0, none⟩ = some (.string (bstr x.id)) ∧ w'.cell? ⟨xb, 1, none⟩ = some (.string (bstr x.pre)) ∧ w'.cell? ⟨xb, 2, none⟩ = some (.int .i64 x.frm) ∧ w'.cell? ⟨xb, 3, none⟩ = some (.int .i64 x.to) ∧ w'.cell? ⟨xb, 4, none⟩ = some (.int .i64 x.st) ∧ w'.cell? ⟨xb, 5, none⟩ = some (.int .i64 x.en) ∧ w'.cell? ⟨xb, 6, none⟩ = some (.int .i64 x.made) ∧ w'.cell? ⟨xb, 7, none⟩ = some (.int .i64 ((q : Int) + 1)) ∧ w'.cell? ⟨xb, 8, none⟩ = some (.string (bstr x.team))) (by kernel_rfl) (KEEPX.out _ (Below.drew (HBJ.out))) (fun hHeld => ?_)
            obtain ⟨wq, hwq⟩ : ∃ wq, wq = World.drew wr := ⟨_, rfl⟩
            have HBQ : Hid (Below wa.heap.size wa wq) := Lib.hid (by rw [hwq]; exact Below.drew (HBJ.out))
            rw [← hwq] at hHeld ⊢
            have HOQ := Lib.hid (own_blwT HOJ.out (show Below wr.heap.size wr wq by rw [hwq]; exact Below.drew (Below.refl _ _)))
            clear hwq
            refine wpAnyH_take (i := 0) (v := ?_) rfl (by kernel_rfl) (by kernel_rfl) (by kernel_rfl) (fun _ _ _ h => h) (Or.inl ⟨by rfl, ?_⟩) (by assumption) ?_
            rotate_left
            · (intro w hSw; (try (obtain ⟨q0, q1, q2, q3, q4, q5, q6, q7, q8⟩ := hSw)); go_simp; (try rw [if_neg (by omega)]); (try rw [hwq2]); try with_reducible rfl)
            try simp only [List.getElem_toArray, List.getElem_cons_succ, List.getElem_cons_zero, Act.put, List.setIfInBounds_toArray, List.set_cons_zero, List.set_cons_succ]
            refine wpAnyH_take (i := 1) (v := ?_) rfl (by kernel_rfl) (by kernel_rfl) (by kernel_rfl) (fun _ _ _ h => h) (Or.inl ⟨by rfl, ?_⟩) (by assumption) ?_
            rotate_left
            · (intro w hSw; (try (obtain ⟨q0, q1, q2, q3, q4, q5, q6, q7, q8⟩ := hSw)); go_simp; (try rw [if_neg (by omega)]); (try rw [hwq2]); try with_reducible rfl)
            try simp only [List.getElem_toArray, List.getElem_cons_succ, List.getElem_cons_zero, Act.put, List.setIfInBounds_toArray, List.set_cons_zero, List.set_cons_succ]
            refine wpAnyH_take (i := 3) (v := ?_) rfl (by kernel_rfl) (by kernel_rfl) (by kernel_rfl) (fun _ _ _ h => h) (Or.inl ⟨by rfl, ?_⟩) (by assumption) ?_
            rotate_left
            · (intro w hSw; (try (obtain ⟨q0, q1, q2, q3, q4, q5, q6, q7, q8⟩ := hSw)); go_simp; (try rw [if_neg (by omega)]); (try rw [hwq2]); try with_reducible rfl)
            try simp only [List.getElem_toArray, List.getElem_cons_succ, List.getElem_cons_zero, Act.put, List.setIfInBounds_toArray, List.set_cons_zero, List.set_cons_succ]
            refine wpAnyH_take (i := 4) (v := ?_) rfl (by kernel_rfl) (by kernel_rfl) (by kernel_rfl) (fun _ _ _ h => h) (Or.inl ⟨by rfl, ?_⟩) (by assumption) ?_
            rotate_left
            · (intro w hSw; (try (obtain ⟨q0, q1, q2, q3, q4, q5, q6, q7, q8⟩ := hSw)); go_simp; (try rw [if_neg (by omega)]); (try rw [hwq2]); try with_reducible rfl)
            try simp only [List.getElem_toArray, List.getElem_cons_succ, List.getElem_cons_zero, Act.put, List.setIfInBounds_toArray, List.set_cons_zero, List.set_cons_succ]
            refine wpAnyH_take (i := 5) (v := ?_) rfl (by kernel_rfl) (by kernel_rfl) (by kernel_rfl) (fun _ _ _ h => h) (Or.inl ⟨by rfl, ?_⟩) (by assumption) ?_
            rotate_left
            · (intro w hSw; (try (obtain ⟨q0, q1, q2, q3, q4, q5, q6, q7, q8⟩ := hSw)); go_simp; (try rw [if_neg (by omega)]); (try rw [hwq2]); try with_reducible rfl)
            try simp only [List.getElem_toArray, List.getElem_cons_succ, List.getElem_cons_zero, Act.put, List.setIfInBounds_toArray, List.set_cons_zero, List.set_cons_succ]
            refine wpAnyH_take (i := 8) (v := ?_) rfl (by kernel_rfl) (by kernel_rfl) (by kernel_rfl) (fun _ _ _ h => h) (Or.inl ⟨by rfl, ?_⟩) (by assumption) ?_
            rotate_left
            · (intro w hSw; (try (obtain ⟨q0, q1, q2, q3, q4, q5, q6, q7, q8⟩ := hSw)); go_simp; (try rw [if_neg (by omega)]); (try rw [hwq2]); try with_reducible rfl)
            try simp only [List.getElem_toArray, List.getElem_cons_succ, List.getElem_cons_zero, Act.put, List.setIfInBounds_toArray, List.set_cons_zero, List.set_cons_succ]
            refine wpAnyH_take (i := 9) (v := ?_) rfl (by kernel_rfl) (by kernel_rfl) (by kernel_rfl) (fun _ _ _ h => h) (Or.inl ⟨by rfl, ?_⟩) (by assumption) ?_
            rotate_left
            · (intro w hSw; (try (obtain ⟨q0, q1, q2, q3, q4, q5, q6, q7, q8⟩ := hSw)); go_simp; (try rw [if_neg (by omega)]); (try rw [hwq2]); try with_reducible rfl)
            try simp only [List.getElem_toArray, List.getElem_cons_succ, List.getElem_cons_zero, Act.put, List.setIfInBounds_toArray, List.set_cons_zero, List.set_cons_succ]
            refine wpAnyH_ready (rs := [2]) (by kernel_rfl) (by simp) ?_
            refine AllReadyH.cons rfl (fun K hK => ?_) AllReadyH.nil
            rw [if_pos (by rfl)]
            simp only [List.getElem_toArray, List.getElem_cons_succ, List.getElem_cons_zero]
            go_simp
            go_at_call 25
            refine (kindSplit_any wq (HGX.out _ (ext_trans HBA.out HBQ.out))).mono ?_
            rintro e wk5 ⟨rfl, hwk⟩
            have hbk := (Below.refl wq.heap.size wq).alloc (Nat.le_refl _) (.cells (kindRow.map fun x => Value.string (bstr x)).toArray 9)
            have hkk := Blk.new wq 9 (kindRow.map fun x => Value.string (bstr x))
            rw [← hwk] at hbk hkk
            clear hwk
            have B8 := Lib.hid (ext_trans HBQ.out hbk)
            have HO9 := Lib.hid (own_blwT HOQ.out hbk)
            have HK6 := Lib.hid hkk
            clear hbk hkk
            generalize wq.heap.size = kb7 at *
            show K _ wk5
            refine hK.out _ _ (KEEPX.out wk5 B8.out) (fun hHeld => ?_)
            clear hK K
            try simp only [List.getElem_toArray, List.getElem_cons_succ, List.getElem_cons_zero, Act.put, List.setIfInBounds_toArray, List.set_cons_zero, List.set_cons_succ]
            refine wpAnyH_take (i := 6) (v := ?_) rfl (by kernel_rfl) (by kernel_rfl) (by kernel_rfl) (fun _ _ _ h => h) (Or.inl ⟨by rfl, ?_⟩) (by assumption) ?_
            rotate_left
            · (intro w hSw; (try (obtain ⟨q0, q1, q2, q3, q4, q5, q6, q7, q8⟩ := hSw)); go_simp; (try rw [if_neg (by omega)]); (try rw [hwq2]); (try rw [if_pos (by omega)]); (try rw [Int.toNat_natCast]); try with_reducible rfl)
            try simp only [List.getElem_toArray, List.getElem_cons_succ, List.getElem_cons_zero, Act.put, List.setIfInBounds_toArray, List.set_cons_zero, List.set_cons_succ]
            refine wpAnyH_ready (rs := [7, 10]) (by kernel_rfl) (by simp) ?_
            refine AllReadyH.cons rfl (fun K hK => ?_) (AllReadyH.cons rfl (fun K hK => ?_) AllReadyH.nil)
            · rw [if_pos (by rfl)]
              simp only [List.getElem_toArray, List.getElem_cons_succ, List.getElem_cons_zero]
              have kc : wk5.cell? ⟨kb7, q, none⟩ = some (.string (bstr kd)) := HKC.out _ _ HK6.out
              go_simp
              refine hK.out _ _ (KEEPX.out wk5 B8.out) (fun hHeld => ?_)
              clear hK K kc
              try simp only [List.getElem_toArray, List.getElem_cons_succ, List.getElem_cons_zero, Act.put, List.setIfInBounds_toArray, List.set_cons_zero, List.set_cons_succ]
              refine wpAnyH_ready (rs := [10]) (by kernel_rfl) (by simp) ?_
              refine AllReadyH.cons rfl (fun K hK => ?_) AllReadyH.nil
              rw [if_pos (by rfl)]
              simp only [List.getElem_toArray, List.getElem_cons_succ, List.getElem_cons_zero]
              go_simp
              go_at_call 24
              refine (or_any x.team wk5).mono ?_
              rintro e wu10 ⟨rfl, hwu⟩
              subst hwu
              show K _ wu10
              refine hK.out _ _ (KEEPX.out wu10 B8.out) (fun hHeld => ?_)
              clear hK K
              try simp only [List.getElem_toArray, List.getElem_cons_succ, List.getElem_cons_zero, Act.put, List.setIfInBounds_toArray, List.set_cons_zero, List.set_cons_succ]
              refine wpAnyH_ready (rs := [11]) (by kernel_rfl) (by simp) ?_
              refine AllReadyH.cons rfl (fun K hK => ?_) AllReadyH.nil
              rw [if_pos (by rfl)]
              simp only [List.getElem_toArray, List.getElem_cons_succ, List.getElem_cons_zero]
              go_simp
              have hbb := (Below.refl wu10.heap.size wu10).alloc (Nat.le_refl _) (.cells #[.string (bstr kd), .string (bstr (dashS x.team))] 9)
              have B13 := Lib.hid (ext_trans B8.out hbb)
              clear hbb
              refine hK.out _ _ (KEEPX.out _ B13.out) (fun hHeld => ?_)
              clear hK K
              try simp only [List.getElem_toArray, List.getElem_cons_succ, List.getElem_cons_zero, Act.put, List.setIfInBounds_toArray, List.set_cons_zero, List.set_cons_succ]
              refine wpAnyH_ready (rs := [12]) (by kernel_rfl) (by simp) ?_
              refine AllReadyH.cons rfl (fun K hK => ?_) AllReadyH.nil
              refine step_app_new (w := wu10) (by rfl) (.tmp 58) (.tmp 68) 57 (by rfl) 9 (.string (bstr [])) 1 16 Tryz.underlying57 string_info rfl (by decide) (m := 2) [.string (bstr kd), .string (bstr (dashS x.team))] 0 rfl HO9.out B8.out.size (by rfl) (by rfl) (by rfl) (by decide) (by simp [Value.oneCell']) (by unfold maxLen; omega) (by omega) ?_
              intro g9 c9 w9 HO9 HG9 HE9 HL9
              have HB9 := Lib.hid (HE9.out _ B8.out)
              refine hK.out _ _ (KEEPX.out _ HB9.out) (fun hHeld => ?_)
              clear hK K HG9 HE9 HL9
              try simp only [List.getElem_toArray, List.getElem_cons_succ, List.getElem_cons_zero, Act.put, List.setIfInBounds_toArray, List.set_cons_zero, List.set_cons_succ]
              refine wpAnyH_ready (rs := [13]) (by kernel_rfl) (by simp) ?_
              refine AllReadyH.cons rfl (fun K hK => ?_) AllReadyH.nil
              rw [if_pos (by rfl)]
              simp only [List.getElem_toArray, List.getElem_cons_succ, List.getElem_cons_zero]
              go_simp
              obtain ⟨hc9, hg9, hcl9⟩ := own_cellsT HO9.out (by decide)
              have hjn := joinW_any g9 c9 [x.id, dashS x.pre, Lib.itoa x.frm, Lib.itoa x.to, Lib.itoa x.st, Lib.itoa x.en, Lib.itoa x.made, kd, dashS x.team] w9 (fun j hj => by rw [hcl9 j hj]; rfl) hg9 (by simp) hc9 (by rw [HJ.out]; omega)
              change Calls _ _ #[.slice (some ⟨g9, 0, none⟩) 9 c9, _] _ _ at hjn
              rw [HJ.out] at hjn
              clear hcl9
              go_at_call 19
              refine hjn.mono ?_
              clear hjn
              rintro e wj14 ⟨rfl, hbj⟩
              have B15 := Lib.hid (ext_trans HB9.out hbj)
              clear hbj
              show K _ wj14
              refine hK.out _ _ (KEEPX.out wj14 B15.out) (fun hHeld => ?_)
              clear hK K
              try simp only [List.getElem_toArray, List.getElem_cons_succ, List.getElem_cons_zero, Act.put, List.setIfInBounds_toArray, List.set_cons_zero, List.set_cons_succ]
              refine wpAnyH_take (i := 14) (v := ?_) rfl (by kernel_rfl) (by kernel_rfl) (by kernel_rfl) (fun _ _ _ h => h) (Or.inl ⟨by rfl, ?_⟩) (by assumption) ?_
              rotate_left
              · (intro w hSw; (try (obtain ⟨q0, q1, q2, q3, q4, q5, q6, q7, q8⟩ := hSw)); go_simp; (try rw [if_neg (by omega)]); try with_reducible rfl)
              try simp only [List.getElem_toArray, List.getElem_cons_succ, List.getElem_cons_zero, Act.put, List.setIfInBounds_toArray, List.set_cons_zero, List.set_cons_succ]
              refine wpAnyH_take (i := 15) (v := ?_) rfl (by kernel_rfl) (by kernel_rfl) (by kernel_rfl) (fun _ _ _ h => h) (Or.inl ⟨by rfl, ?_⟩) (by assumption) ?_
              rotate_left
              · (intro w hSw; (try (obtain ⟨q0, q1, q2, q3, q4, q5, q6, q7, q8⟩ := hSw)); go_simp; (try rw [if_neg (by omega)]); try with_reducible rfl)
              try simp only [List.getElem_toArray, List.getElem_cons_succ, List.getElem_cons_zero, Act.put, List.setIfInBounds_toArray, List.set_cons_zero, List.set_cons_succ]
              refine wpAnyH_take (i := 16) (v := ?_) rfl (by kernel_rfl) (by kernel_rfl) (by kernel_rfl) (fun _ _ _ h => h) (Or.inl ⟨by rfl, ?_⟩) (by assumption) ?_
              rotate_left
              · (intro w hSw; (try (obtain ⟨q0, q1, q2, q3, q4, q5, q6, q7, q8⟩ := hSw)); go_simp; (try rw [if_neg (by omega)]); try with_reducible rfl)
              try simp only [List.getElem_toArray, List.getElem_cons_succ, List.getElem_cons_zero, Act.put, List.setIfInBounds_toArray, List.set_cons_zero, List.set_cons_succ]
              refine wpAnyH_done (by kernel_rfl) ?_ _
              have HBZ := Lib.hid (ext_trans HBA.out B15.out)
              generalize wj14 = wz at *
              clear hHeld KEEPX
              go_wp2_with fail
              go_roundw
              case rel => exact ⟨k + 1, by omega, by rw [HSU.out], by rw [HN2.out], by go_num, HBZ⟩
              case measure => simp [intOf]; omega
            · rw [if_pos (by rfl)]
              simp only [List.getElem_toArray, List.getElem_cons_succ, List.getElem_cons_zero]
              go_simp
              go_at_call 24
              refine (or_any x.team wk5).mono ?_
              rintro e wu16 ⟨rfl, hwu⟩
              subst hwu
              show K _ wu16
              refine hK.out _ _ (KEEPX.out wu16 B8.out) (fun hHeld => ?_)
              clear hK K
              try simp only [List.getElem_toArray, List.getElem_cons_succ, List.getElem_cons_zero, Act.put, List.setIfInBounds_toArray, List.set_cons_zero, List.set_cons_succ]
              refine wpAnyH_ready (rs := [7]) (by kernel_rfl) (by simp) ?_
              refine AllReadyH.cons rfl (fun K hK => ?_) AllReadyH.nil
              rw [if_pos (by rfl)]
              simp only [List.getElem_toArray, List.getElem_cons_succ, List.getElem_cons_zero]
              have kc : wu16.cell? ⟨kb7, q, none⟩ = some (.string (bstr kd)) := HKC.out _ _ HK6.out
              go_simp
              refine hK.out _ _ (KEEPX.out wu16 B8.out) (fun hHeld => ?_)
              clear hK K kc
              try simp only [List.getElem_toArray, List.getElem_cons_succ, List.getElem_cons_zero, Act.put, List.setIfInBounds_toArray, List.set_cons_zero, List.set_cons_succ]
              refine wpAnyH_ready (rs := [11]) (by kernel_rfl) (by simp) ?_
              refine AllReadyH.cons rfl (fun K hK => ?_) AllReadyH.nil
              rw [if_pos (by rfl)]
              simp only [List.getElem_toArray, List.getElem_cons_succ, List.getElem_cons_zero]
              go_simp
              have hbb := (Below.refl wu16.heap.size wu16).alloc (Nat.le_refl _) (.cells #[.string (bstr kd), .string (bstr (dashS x.team))] 9)
              have B19 := Lib.hid (ext_trans B8.out hbb)
              clear hbb
              refine hK.out _ _ (KEEPX.out _ B19.out) (fun hHeld => ?_)
              clear hK K
              try simp only [List.getElem_toArray, List.getElem_cons_succ, List.getElem_cons_zero, Act.put, List.setIfInBounds_toArray, List.set_cons_zero, List.set_cons_succ]
              refine wpAnyH_ready (rs := [12]) (by kernel_rfl) (by simp) ?_
              refine AllReadyH.cons rfl (fun K hK => ?_) AllReadyH.nil
              refine step_app_new (w := wu16) (by rfl) (.tmp 58) (.tmp 68) 57 (by rfl) 9 (.string (bstr [])) 1 16 Tryz.underlying57 string_info rfl (by decide) (m := 2) [.string (bstr kd), .string (bstr (dashS x.team))] 0 rfl HO9.out B8.out.size (by rfl) (by rfl) (by rfl) (by decide) (by simp [Value.oneCell']) (by unfold maxLen; omega) (by omega) ?_
              intro g9 c9 w9 HO9 HG9 HE9 HL9
              have HB9 := Lib.hid (HE9.out _ B8.out)
              refine hK.out _ _ (KEEPX.out _ HB9.out) (fun hHeld => ?_)
              clear hK K HG9 HE9 HL9
              try simp only [List.getElem_toArray, List.getElem_cons_succ, List.getElem_cons_zero, Act.put, List.setIfInBounds_toArray, List.set_cons_zero, List.set_cons_succ]
              refine wpAnyH_ready (rs := [13]) (by kernel_rfl) (by simp) ?_
              refine AllReadyH.cons rfl (fun K hK => ?_) AllReadyH.nil
              rw [if_pos (by rfl)]
              simp only [List.getElem_toArray, List.getElem_cons_succ, List.getElem_cons_zero]
              go_simp
              obtain ⟨hc9, hg9, hcl9⟩ := own_cellsT HO9.out (by decide)
              have hjn := joinW_any g9 c9 [x.id, dashS x.pre, Lib.itoa x.frm, Lib.itoa x.to, Lib.itoa x.st, Lib.itoa x.en, Lib.itoa x.made, kd, dashS x.team] w9 (fun j hj => by rw [hcl9 j hj]; rfl) hg9 (by simp) hc9 (by rw [HJ.out]; omega)
              change Calls _ _ #[.slice (some ⟨g9, 0, none⟩) 9 c9, _] _ _ at hjn
              rw [HJ.out] at hjn
              clear hcl9
              go_at_call 19
              refine hjn.mono ?_
              clear hjn
              rintro e wj20 ⟨rfl, hbj⟩
              have B21 := Lib.hid (ext_trans HB9.out hbj)
              clear hbj
              show K _ wj20
              refine hK.out _ _ (KEEPX.out wj20 B21.out) (fun hHeld => ?_)
              clear hK K
              try simp only [List.getElem_toArray, List.getElem_cons_succ, List.getElem_cons_zero, Act.put, List.setIfInBounds_toArray, List.set_cons_zero, List.set_cons_succ]
              refine wpAnyH_take (i := 14) (v := ?_) rfl (by kernel_rfl) (by kernel_rfl) (by kernel_rfl) (fun _ _ _ h => h) (Or.inl ⟨by rfl, ?_⟩) (by assumption) ?_
              rotate_left
              · (intro w hSw; (try (obtain ⟨q0, q1, q2, q3, q4, q5, q6, q7, q8⟩ := hSw)); go_simp; (try rw [if_neg (by omega)]); try with_reducible rfl)
              try simp only [List.getElem_toArray, List.getElem_cons_succ, List.getElem_cons_zero, Act.put, List.setIfInBounds_toArray, List.set_cons_zero, List.set_cons_succ]
              refine wpAnyH_take (i := 15) (v := ?_) rfl (by kernel_rfl) (by kernel_rfl) (by kernel_rfl) (fun _ _ _ h => h) (Or.inl ⟨by rfl, ?_⟩) (by assumption) ?_
              rotate_left
              · (intro w hSw; (try (obtain ⟨q0, q1, q2, q3, q4, q5, q6, q7, q8⟩ := hSw)); go_simp; (try rw [if_neg (by omega)]); try with_reducible rfl)
              try simp only [List.getElem_toArray, List.getElem_cons_succ, List.getElem_cons_zero, Act.put, List.setIfInBounds_toArray, List.set_cons_zero, List.set_cons_succ]
              refine wpAnyH_take (i := 16) (v := ?_) rfl (by kernel_rfl) (by kernel_rfl) (by kernel_rfl) (fun _ _ _ h => h) (Or.inl ⟨by rfl, ?_⟩) (by assumption) ?_
              rotate_left
              · (intro w hSw; (try (obtain ⟨q0, q1, q2, q3, q4, q5, q6, q7, q8⟩ := hSw)); go_simp; (try rw [if_neg (by omega)]); try with_reducible rfl)
              try simp only [List.getElem_toArray, List.getElem_cons_succ, List.getElem_cons_zero, Act.put, List.setIfInBounds_toArray, List.set_cons_zero, List.set_cons_succ]
              refine wpAnyH_done (by kernel_rfl) ?_ _
              have HBZ := Lib.hid (ext_trans HBA.out B21.out)
              generalize wj20 = wz at *
              clear hHeld KEEPX
              go_wp2_with fail
              go_roundw
              case rel => exact ⟨k + 1, by omega, by rw [HSU.out], by rw [HN2.out], by go_num, HBZ⟩
              case measure => simp [intOf]; omega
      · have HN2 := Lib.hid HN1.out
        rw [decide_eq_false hd, Bool.false_or] at HN2
        have hde : ((bstr x.pre).toList == [45]) = false := by rw [bstr_toList, beq_eq_false_iff_ne]; exact hd
        clear HN1 hd
        go_wp2_with fail
        clear c0 c1 c2 c3 c4 c5 c6 c7 c8 k1
        generalize wr.alloc (.cells #[.string (bstr x.id), .string (bstr x.pre), .int .i64 x.frm, .int .i64 x.to, .int .i64 x.st, .int .i64 x.en, .int .i64 x.made, .int .i64 ((q : Int) + 1), .string (bstr x.team)] 28) = wa at *
        generalize wr.heap.size = xb at *
        refine wp_region_held_drew (S := fun w' => w'.cell? ⟨xb, 0, none⟩ = some (.string (bstr x.id)) ∧ w'.cell? ⟨xb, 1, none⟩ = some (.string (bstr x.pre)) ∧ w'.cell? ⟨xb, 2, none⟩ = some (.int .i64 x.frm) ∧ w'.cell? ⟨xb, 3, none⟩ = some (.int .i64 x.to) ∧ w'.cell? ⟨xb, 4, none⟩ = some (.int .i64 x.st) ∧ w'.cell? ⟨xb, 5, none⟩ = some (.int .i64 x.en) ∧ w'.cell? ⟨xb, 6, none⟩ = some (.int .i64 x.made) ∧ w'.cell? ⟨xb, 7, none⟩ = some (.int .i64 ((q : Int) + 1)) ∧ w'.cell? ⟨xb, 8, none⟩ = some (.string (bstr x.team))) (by kernel_rfl) (KEEPX.out _ (Below.drew (Below.refl wa.heap.size wa))) (fun hHeld => ?_)
        obtain ⟨wq, hwq⟩ : ∃ wq, wq = World.drew wa := ⟨_, rfl⟩
        have HBQ : Hid (Below wa.heap.size wa wq) := Lib.hid (by rw [hwq]; exact Below.drew (Below.refl wa.heap.size wa))
        rw [← hwq] at hHeld ⊢
        clear hwq
        refine wpAnyH_take (i := 0) (v := ?_) rfl (by kernel_rfl) (by kernel_rfl) (by kernel_rfl) (fun _ _ _ h => h) (Or.inl ⟨by rfl, ?_⟩) (by assumption) ?_
        rotate_left
        · (intro w hSw; (try (obtain ⟨q0, q1, q2, q3, q4, q5, q6, q7, q8⟩ := hSw)); go_simp; (try rw [if_neg (by omega)]); try with_reducible rfl)
        try simp only [List.getElem_toArray, List.getElem_cons_succ, List.getElem_cons_zero, Act.put, List.setIfInBounds_toArray, List.set_cons_zero, List.set_cons_succ]
        refine wpAnyH_take (i := 1) (v := ?_) rfl (by kernel_rfl) (by kernel_rfl) (by kernel_rfl) (fun _ _ _ h => h) (Or.inl ⟨by rfl, ?_⟩) (by assumption) ?_
        rotate_left
        · (intro w hSw; (try (obtain ⟨q0, q1, q2, q3, q4, q5, q6, q7, q8⟩ := hSw)); go_simp; (try rw [if_neg (by omega)]); try with_reducible rfl)
        try simp only [List.getElem_toArray, List.getElem_cons_succ, List.getElem_cons_zero, Act.put, List.setIfInBounds_toArray, List.set_cons_zero, List.set_cons_succ]
        refine wpAnyH_take (i := 2) (v := ?_) rfl (by kernel_rfl) (by kernel_rfl) (by kernel_rfl) (fun _ _ _ h => h) (Or.inl ⟨by rfl, ?_⟩) (by assumption) ?_
        rotate_left
        · (intro w hSw; (try (obtain ⟨q0, q1, q2, q3, q4, q5, q6, q7, q8⟩ := hSw)); go_simp; (try rw [if_neg (by omega)]); try with_reducible rfl)
        try simp only [List.getElem_toArray, List.getElem_cons_succ, List.getElem_cons_zero, Act.put, List.setIfInBounds_toArray, List.set_cons_zero, List.set_cons_succ]
        refine wpAnyH_take (i := 3) (v := ?_) rfl (by kernel_rfl) (by kernel_rfl) (by kernel_rfl) (fun _ _ _ h => h) (Or.inl ⟨by rfl, ?_⟩) (by assumption) ?_
        rotate_left
        · (intro w hSw; (try (obtain ⟨q0, q1, q2, q3, q4, q5, q6, q7, q8⟩ := hSw)); go_simp; (try rw [if_neg (by omega)]); try with_reducible rfl)
        try simp only [List.getElem_toArray, List.getElem_cons_succ, List.getElem_cons_zero, Act.put, List.setIfInBounds_toArray, List.set_cons_zero, List.set_cons_succ]
        refine wpAnyH_ready (rs := [4]) (by kernel_rfl) (by simp) ?_
        refine AllReadyH.cons rfl (fun K hK => ?_) AllReadyH.nil
        rw [if_pos (by rfl)]
        simp only [List.getElem_toArray, List.getElem_cons_succ, List.getElem_cons_zero]
        go_simp
        go_at_call 24
        refine (or_any x.pre wq).mono ?_
        rintro e wu1 ⟨rfl, hwu⟩
        subst hwu
        show K _ wu1
        refine hK.out _ _ (KEEPX.out wu1 HBQ.out) (fun hHeld => ?_)
        clear hK K
        try simp only [List.getElem_toArray, List.getElem_cons_succ, List.getElem_cons_zero, Act.put, List.setIfInBounds_toArray, List.set_cons_zero, List.set_cons_succ]
        refine wpAnyH_ready (rs := [5]) (by kernel_rfl) (by simp) ?_
        refine AllReadyH.cons rfl (fun K hK => ?_) AllReadyH.nil
        rw [if_pos (by rfl)]
        simp only [List.getElem_toArray, List.getElem_cons_succ, List.getElem_cons_zero]
        go_simp
        have hbb := (Below.refl wu1.heap.size wu1).alloc (Nat.le_refl _) (.cells #[.string (bstr x.id), .string (bstr (dashS x.pre))] 9)
        have B4 := Lib.hid (ext_trans HBQ.out hbb)
        clear hbb
        refine hK.out _ _ (KEEPX.out _ B4.out) (fun hHeld => ?_)
        clear hK K
        try simp only [List.getElem_toArray, List.getElem_cons_succ, List.getElem_cons_zero, Act.put, List.setIfInBounds_toArray, List.set_cons_zero, List.set_cons_succ]
        refine wpAnyH_take (i := 6) (v := ?_) rfl (by kernel_rfl) (by kernel_rfl) (by kernel_rfl) (fun _ _ _ h => h) (Or.inl ⟨by rfl, ?_⟩) (by assumption) ?_
        rotate_left
        · (intro w hSw; (try (obtain ⟨q0, q1, q2, q3, q4, q5, q6, q7, q8⟩ := hSw)); go_simp; (try rw [if_neg (by omega)]); try with_reducible rfl)
        try simp only [List.getElem_toArray, List.getElem_cons_succ, List.getElem_cons_zero, Act.put, List.setIfInBounds_toArray, List.set_cons_zero, List.set_cons_succ]
        refine wpAnyH_done (by kernel_rfl) ?_ _
        have HOR := Lib.hid (own_lit HBQ.out.size 9 ([.string (bstr x.id), .string (bstr (dashS x.pre))] : List Value) (by unfold maxLen; simp))
        have HBR := B4
        clear hHeld
        generalize hwz : wu1.alloc (.cells #[.string (bstr x.id), .string (bstr (dashS x.pre))] 9) = wR at *
        generalize wu1.heap.size = rb at *
        clear hwz
        have hrlt : rb < wR.heap.size := by have := (own_cellsT HOR.out (by simp)).2.1; exact this
        have KEEPR := KEEPX.out _ HBR.out
        obtain ⟨p0, p1, p2, p3, p4, p5, p6, p7, p8⟩ := KEEPR
        have HNB := Lib.hid (Blk.new wR 3 [.int .i64 x.frm, .int .i64 x.to, .int .i64 x.st, .int .i64 x.en, .int .i64 x.made])
        have hal := (Below.refl wR.heap.size wR).alloc (Nat.le_refl _) (.cells #[.int .i64 x.frm, .int .i64 x.to, .int .i64 x.st, .int .i64 x.en, .int .i64 x.made] 3)
        have HBN := Lib.hid (ext_trans HBR.out hal)
        have HON := Lib.hid (own_blwT HOR.out hal)
        clear hal
        go_wp2_with fail
        clear p0 p1 p2 p3 p4 p5 p6 p7 p8 HOR
        have hrn : rb ≠ wR.heap.size := Nat.ne_of_lt hrlt
        generalize wR.alloc (.cells #[.int .i64 x.frm, .int .i64 x.to, .int .i64 x.st, .int .i64 x.en, .int .i64 x.made] 3) = wN at *
        generalize wR.heap.size = nb at *
        go_loopw [9, 47] (fun vr vi wr => ∃ (j g c' : Nat), j ≤ 5 ∧ vi = .int .i64 j ∧ vr = .slice (some ⟨g, 0, none⟩) (2 + j) c' ∧ g ≠ nb ∧ Hid (wr.ownsRow wa.heap.size 9 1 (.slice (some ⟨g, 0, none⟩) (2 + j) c') (2 + j) (rowW x j)) ∧ Hid (Below wa.heap.size wa wr) ∧ Hid (Blk wr nb 3 ((numL x).map (.int .i64)))) (fun _ vi _ => 5 - (intOf vi).toNat)
        case atStart => exact ⟨0, rb, 2, by omega, rfl, rfl, hrn, HON, HBN, HNB⟩
        case round =>
          obtain ⟨j, g, c', hj, rfl, rfl, hgn, HOJ, HBJ, HNJ⟩ := hrel
          by_cases hlj : j < 5
          · have hlj' : (j : Int) < 5 := by omega
            have hnl : j < (numL x).length := hlj
            have c0 : wr.cell? ⟨nb, j, none⟩ = some (.int .i64 (numL x)[j]) := by rw [HNJ.out.cell j, List.getElem?_map, List.getElem?_eq_getElem hnl]; rfl
            have hrg := numL_ok HRO.out _ (List.getElem_mem hnl)
            have HRS := Lib.hid (rowW_succ x hlj)
            rw [List.getD_eq_getElem?_getD, List.getElem?_eq_getElem hnl, Option.getD_some] at HRS
            generalize (numL x)[j] = n at *
            go_wp2_with fail
            refine (itoa_any n _ (HTX.out _ (ext_trans HBA.out HBJ.out)) hrg.1 hrg.2).mono ?_
            rintro e w6 ⟨rfl, hb6⟩
            have HB6 := Lib.hid (ext_trans HBJ.out hb6)
            have HO6 := Lib.hid (own_blwT HOJ.out hb6)
            have HN6 := Lib.hid (HNJ.out.same (same_below hb6) HNJ.out.lt)
            clear hb6 c0 HOJ HBJ HNJ
            go_wp2_with (at_builtin; refine app_str rfl (.tmp 51) (.tmp 54) rfl HO6.out HB6.out.size rfl rfl (by omega) ?_; intro g1 cc1 w9 HO9 HG9 HB9 HL9)
            have HB10 := Lib.hid (HB9.out _ HB6.out)
            have HN10 := Lib.hid (HN6.out.same (grown_same HG9.out) ⟨HN6.out.lt, fun e => hgn (by injection e with e; exact e.symm)⟩)
            have HO10 := HO9.out
            rw [← HRS.out] at HO10
            have HO11 := Lib.hid HO10
            have hg1 : g1 ≠ nb := by
              have := HN6.out.lt
              rcases HL9.out with e | e
              · have e : some g = some g1 := e
                injection e with e
                omega
              · omega
            clear HO9 HO10 HG9 HB9 HL9 HN6 HB6 HO6
            go_wp2_with fail
            go_roundw
            case rel => exact ⟨j + 1, g1, cc1, by omega, by go_num, rfl, hg1, HO11, HB10, HN10⟩
            case measure => simp [intOf]; omega
          · obtain rfl : j = 5 := by omega
            rw [show ((5 : Nat) : Int) = (5 : Int) from rfl]
            clear HON HBN HNB HNJ hlj
            have HO5 := Lib.hid (show wr.ownsRow wa.heap.size 9 1 (.slice (some ⟨g, 0, none⟩) 7 c') 7 (rowW x 5) from HOJ.out)
            clear HOJ
            have HOJ := HO5
            clear HO5
            go_wp2_with fail
            refine wp_region_held_drew (S := fun w' => w'.cell? ⟨xb, 0, none⟩ = some (.string (bstr x.id)) ∧ w'.cell? ⟨xb, 1, none⟩ = some (.string (bstr x.pre)) ∧ w'.cell? ⟨xb, 2, none⟩ = some (.int .i64 x.frm) ∧ w'.cell? ⟨xb, 3, none⟩ = some (.int .i64 x.to) ∧ w'.cell? ⟨xb, 4, none⟩ = some (.int .i64 x.st) ∧ w'.cell? ⟨xb, 5, none⟩ = some (.int .i64 x.en) ∧ w'.cell? ⟨xb, 6, none⟩ = some (.int .i64 x.made) ∧ w'.cell? ⟨xb, 7, none⟩ = some (.int .i64 ((q : Int) + 1)) ∧ w'.cell? ⟨xb, 8, none⟩ = some (.string (bstr x.team))) (by kernel_rfl) (KEEPX.out _ (Below.drew (HBJ.out))) (fun hHeld => ?_)
            obtain ⟨wq, hwq⟩ : ∃ wq, wq = World.drew wr := ⟨_, rfl⟩
            have HBQ : Hid (Below wa.heap.size wa wq) := Lib.hid (by rw [hwq]; exact Below.drew (HBJ.out))
            rw [← hwq] at hHeld ⊢
            have HOQ := Lib.hid (own_blwT HOJ.out (show Below wr.heap.size wr wq by rw [hwq]; exact Below.drew (Below.refl _ _)))
            clear hwq
            refine wpAnyH_take (i := 0) (v := ?_) rfl (by kernel_rfl) (by kernel_rfl) (by kernel_rfl) (fun _ _ _ h => h) (Or.inl ⟨by rfl, ?_⟩) (by assumption) ?_
            rotate_left
            · (intro w hSw; (try (obtain ⟨q0, q1, q2, q3, q4, q5, q6, q7, q8⟩ := hSw)); go_simp; (try rw [if_neg (by omega)]); (try rw [hwq2]); try with_reducible rfl)
            try simp only [List.getElem_toArray, List.getElem_cons_succ, List.getElem_cons_zero, Act.put, List.setIfInBounds_toArray, List.set_cons_zero, List.set_cons_succ]
            refine wpAnyH_take (i := 1) (v := ?_) rfl (by kernel_rfl) (by kernel_rfl) (by kernel_rfl) (fun _ _ _ h => h) (Or.inl ⟨by rfl, ?_⟩) (by assumption) ?_
            rotate_left
            · (intro w hSw; (try (obtain ⟨q0, q1, q2, q3, q4, q5, q6, q7, q8⟩ := hSw)); go_simp; (try rw [if_neg (by omega)]); (try rw [hwq2]); try with_reducible rfl)
            try simp only [List.getElem_toArray, List.getElem_cons_succ, List.getElem_cons_zero, Act.put, List.setIfInBounds_toArray, List.set_cons_zero, List.set_cons_succ]
            refine wpAnyH_take (i := 3) (v := ?_) rfl (by kernel_rfl) (by kernel_rfl) (by kernel_rfl) (fun _ _ _ h => h) (Or.inl ⟨by rfl, ?_⟩) (by assumption) ?_
            rotate_left
            · (intro w hSw; (try (obtain ⟨q0, q1, q2, q3, q4, q5, q6, q7, q8⟩ := hSw)); go_simp; (try rw [if_neg (by omega)]); (try rw [hwq2]); try with_reducible rfl)
            try simp only [List.getElem_toArray, List.getElem_cons_succ, List.getElem_cons_zero, Act.put, List.setIfInBounds_toArray, List.set_cons_zero, List.set_cons_succ]
            refine wpAnyH_take (i := 4) (v := ?_) rfl (by kernel_rfl) (by kernel_rfl) (by kernel_rfl) (fun _ _ _ h => h) (Or.inl ⟨by rfl, ?_⟩) (by assumption) ?_
            rotate_left
            · (intro w hSw; (try (obtain ⟨q0, q1, q2, q3, q4, q5, q6, q7, q8⟩ := hSw)); go_simp; (try rw [if_neg (by omega)]); (try rw [hwq2]); try with_reducible rfl)
            try simp only [List.getElem_toArray, List.getElem_cons_succ, List.getElem_cons_zero, Act.put, List.setIfInBounds_toArray, List.set_cons_zero, List.set_cons_succ]
            refine wpAnyH_take (i := 5) (v := ?_) rfl (by kernel_rfl) (by kernel_rfl) (by kernel_rfl) (fun _ _ _ h => h) (Or.inl ⟨by rfl, ?_⟩) (by assumption) ?_
            rotate_left
            · (intro w hSw; (try (obtain ⟨q0, q1, q2, q3, q4, q5, q6, q7, q8⟩ := hSw)); go_simp; (try rw [if_neg (by omega)]); (try rw [hwq2]); try with_reducible rfl)
            try simp only [List.getElem_toArray, List.getElem_cons_succ, List.getElem_cons_zero, Act.put, List.setIfInBounds_toArray, List.set_cons_zero, List.set_cons_succ]
            refine wpAnyH_take (i := 8) (v := ?_) rfl (by kernel_rfl) (by kernel_rfl) (by kernel_rfl) (fun _ _ _ h => h) (Or.inl ⟨by rfl, ?_⟩) (by assumption) ?_
            rotate_left
            · (intro w hSw; (try (obtain ⟨q0, q1, q2, q3, q4, q5, q6, q7, q8⟩ := hSw)); go_simp; (try rw [if_neg (by omega)]); (try rw [hwq2]); try with_reducible rfl)
            try simp only [List.getElem_toArray, List.getElem_cons_succ, List.getElem_cons_zero, Act.put, List.setIfInBounds_toArray, List.set_cons_zero, List.set_cons_succ]
            refine wpAnyH_take (i := 9) (v := ?_) rfl (by kernel_rfl) (by kernel_rfl) (by kernel_rfl) (fun _ _ _ h => h) (Or.inl ⟨by rfl, ?_⟩) (by assumption) ?_
            rotate_left
            · (intro w hSw; (try (obtain ⟨q0, q1, q2, q3, q4, q5, q6, q7, q8⟩ := hSw)); go_simp; (try rw [if_neg (by omega)]); (try rw [hwq2]); try with_reducible rfl)
            try simp only [List.getElem_toArray, List.getElem_cons_succ, List.getElem_cons_zero, Act.put, List.setIfInBounds_toArray, List.set_cons_zero, List.set_cons_succ]
            refine wpAnyH_ready (rs := [2]) (by kernel_rfl) (by simp) ?_
            refine AllReadyH.cons rfl (fun K hK => ?_) AllReadyH.nil
            rw [if_pos (by rfl)]
            simp only [List.getElem_toArray, List.getElem_cons_succ, List.getElem_cons_zero]
            go_simp
            go_at_call 25
            refine (kindSplit_any wq (HGX.out _ (ext_trans HBA.out HBQ.out))).mono ?_
            rintro e wk5 ⟨rfl, hwk⟩
            have hbk := (Below.refl wq.heap.size wq).alloc (Nat.le_refl _) (.cells (kindRow.map fun x => Value.string (bstr x)).toArray 9)
            have hkk := Blk.new wq 9 (kindRow.map fun x => Value.string (bstr x))
            rw [← hwk] at hbk hkk
            clear hwk
            have B8 := Lib.hid (ext_trans HBQ.out hbk)
            have HO9 := Lib.hid (own_blwT HOQ.out hbk)
            have HK6 := Lib.hid hkk
            clear hbk hkk
            generalize wq.heap.size = kb7 at *
            show K _ wk5
            refine hK.out _ _ (KEEPX.out wk5 B8.out) (fun hHeld => ?_)
            clear hK K
            try simp only [List.getElem_toArray, List.getElem_cons_succ, List.getElem_cons_zero, Act.put, List.setIfInBounds_toArray, List.set_cons_zero, List.set_cons_succ]
            refine wpAnyH_take (i := 6) (v := ?_) rfl (by kernel_rfl) (by kernel_rfl) (by kernel_rfl) (fun _ _ _ h => h) (Or.inl ⟨by rfl, ?_⟩) (by assumption) ?_
            rotate_left
            · (intro w hSw; (try (obtain ⟨q0, q1, q2, q3, q4, q5, q6, q7, q8⟩ := hSw)); go_simp; (try rw [if_neg (by omega)]); (try rw [hwq2]); (try rw [if_pos (by omega)]); (try rw [Int.toNat_natCast]); try with_reducible rfl)
            try simp only [List.getElem_toArray, List.getElem_cons_succ, List.getElem_cons_zero, Act.put, List.setIfInBounds_toArray, List.set_cons_zero, List.set_cons_succ]
            refine wpAnyH_ready (rs := [7, 10]) (by kernel_rfl) (by simp) ?_
            refine AllReadyH.cons rfl (fun K hK => ?_) (AllReadyH.cons rfl (fun K hK => ?_) AllReadyH.nil)
            · rw [if_pos (by rfl)]
              simp only [List.getElem_toArray, List.getElem_cons_succ, List.getElem_cons_zero]
              have kc : wk5.cell? ⟨kb7, q, none⟩ = some (.string (bstr kd)) := HKC.out _ _ HK6.out
              go_simp
              refine hK.out _ _ (KEEPX.out wk5 B8.out) (fun hHeld => ?_)
              clear hK K kc
              try simp only [List.getElem_toArray, List.getElem_cons_succ, List.getElem_cons_zero, Act.put, List.setIfInBounds_toArray, List.set_cons_zero, List.set_cons_succ]
              refine wpAnyH_ready (rs := [10]) (by kernel_rfl) (by simp) ?_
              refine AllReadyH.cons rfl (fun K hK => ?_) AllReadyH.nil
              rw [if_pos (by rfl)]
              simp only [List.getElem_toArray, List.getElem_cons_succ, List.getElem_cons_zero]
              go_simp
              go_at_call 24
              refine (or_any x.team wk5).mono ?_
              rintro e wu10 ⟨rfl, hwu⟩
              subst hwu
              show K _ wu10
              refine hK.out _ _ (KEEPX.out wu10 B8.out) (fun hHeld => ?_)
              clear hK K
              try simp only [List.getElem_toArray, List.getElem_cons_succ, List.getElem_cons_zero, Act.put, List.setIfInBounds_toArray, List.set_cons_zero, List.set_cons_succ]
              refine wpAnyH_ready (rs := [11]) (by kernel_rfl) (by simp) ?_
              refine AllReadyH.cons rfl (fun K hK => ?_) AllReadyH.nil
              rw [if_pos (by rfl)]
              simp only [List.getElem_toArray, List.getElem_cons_succ, List.getElem_cons_zero]
              go_simp
              have hbb := (Below.refl wu10.heap.size wu10).alloc (Nat.le_refl _) (.cells #[.string (bstr kd), .string (bstr (dashS x.team))] 9)
              have B13 := Lib.hid (ext_trans B8.out hbb)
              clear hbb
              refine hK.out _ _ (KEEPX.out _ B13.out) (fun hHeld => ?_)
              clear hK K
              try simp only [List.getElem_toArray, List.getElem_cons_succ, List.getElem_cons_zero, Act.put, List.setIfInBounds_toArray, List.set_cons_zero, List.set_cons_succ]
              refine wpAnyH_ready (rs := [12]) (by kernel_rfl) (by simp) ?_
              refine AllReadyH.cons rfl (fun K hK => ?_) AllReadyH.nil
              refine step_app_new (w := wu10) (by rfl) (.tmp 58) (.tmp 68) 57 (by rfl) 9 (.string (bstr [])) 1 16 Tryz.underlying57 string_info rfl (by decide) (m := 2) [.string (bstr kd), .string (bstr (dashS x.team))] 0 rfl HO9.out B8.out.size (by rfl) (by rfl) (by rfl) (by decide) (by simp [Value.oneCell']) (by unfold maxLen; omega) (by omega) ?_
              intro g9 c9 w9 HO9 HG9 HE9 HL9
              have HB9 := Lib.hid (HE9.out _ B8.out)
              refine hK.out _ _ (KEEPX.out _ HB9.out) (fun hHeld => ?_)
              clear hK K HG9 HE9 HL9
              try simp only [List.getElem_toArray, List.getElem_cons_succ, List.getElem_cons_zero, Act.put, List.setIfInBounds_toArray, List.set_cons_zero, List.set_cons_succ]
              refine wpAnyH_ready (rs := [13]) (by kernel_rfl) (by simp) ?_
              refine AllReadyH.cons rfl (fun K hK => ?_) AllReadyH.nil
              rw [if_pos (by rfl)]
              simp only [List.getElem_toArray, List.getElem_cons_succ, List.getElem_cons_zero]
              go_simp
              obtain ⟨hc9, hg9, hcl9⟩ := own_cellsT HO9.out (by decide)
              have hjn := joinW_any g9 c9 [x.id, dashS x.pre, Lib.itoa x.frm, Lib.itoa x.to, Lib.itoa x.st, Lib.itoa x.en, Lib.itoa x.made, kd, dashS x.team] w9 (fun j hj => by rw [hcl9 j hj]; rfl) hg9 (by simp) hc9 (by rw [HJ.out]; omega)
              change Calls _ _ #[.slice (some ⟨g9, 0, none⟩) 9 c9, _] _ _ at hjn
              rw [HJ.out] at hjn
              clear hcl9
              go_at_call 19
              refine hjn.mono ?_
              clear hjn
              rintro e wj14 ⟨rfl, hbj⟩
              have B15 := Lib.hid (ext_trans HB9.out hbj)
              clear hbj
              show K _ wj14
              refine hK.out _ _ (KEEPX.out wj14 B15.out) (fun hHeld => ?_)
              clear hK K
              try simp only [List.getElem_toArray, List.getElem_cons_succ, List.getElem_cons_zero, Act.put, List.setIfInBounds_toArray, List.set_cons_zero, List.set_cons_succ]
              refine wpAnyH_take (i := 14) (v := ?_) rfl (by kernel_rfl) (by kernel_rfl) (by kernel_rfl) (fun _ _ _ h => h) (Or.inl ⟨by rfl, ?_⟩) (by assumption) ?_
              rotate_left
              · (intro w hSw; (try (obtain ⟨q0, q1, q2, q3, q4, q5, q6, q7, q8⟩ := hSw)); go_simp; (try rw [if_neg (by omega)]); try with_reducible rfl)
              try simp only [List.getElem_toArray, List.getElem_cons_succ, List.getElem_cons_zero, Act.put, List.setIfInBounds_toArray, List.set_cons_zero, List.set_cons_succ]
              refine wpAnyH_take (i := 15) (v := ?_) rfl (by kernel_rfl) (by kernel_rfl) (by kernel_rfl) (fun _ _ _ h => h) (Or.inl ⟨by rfl, ?_⟩) (by assumption) ?_
              rotate_left
              · (intro w hSw; (try (obtain ⟨q0, q1, q2, q3, q4, q5, q6, q7, q8⟩ := hSw)); go_simp; (try rw [if_neg (by omega)]); try with_reducible rfl)
              try simp only [List.getElem_toArray, List.getElem_cons_succ, List.getElem_cons_zero, Act.put, List.setIfInBounds_toArray, List.set_cons_zero, List.set_cons_succ]
              refine wpAnyH_take (i := 16) (v := ?_) rfl (by kernel_rfl) (by kernel_rfl) (by kernel_rfl) (fun _ _ _ h => h) (Or.inl ⟨by rfl, ?_⟩) (by assumption) ?_
              rotate_left
              · (intro w hSw; (try (obtain ⟨q0, q1, q2, q3, q4, q5, q6, q7, q8⟩ := hSw)); go_simp; (try rw [if_neg (by omega)]); try with_reducible rfl)
              try simp only [List.getElem_toArray, List.getElem_cons_succ, List.getElem_cons_zero, Act.put, List.setIfInBounds_toArray, List.set_cons_zero, List.set_cons_succ]
              refine wpAnyH_done (by kernel_rfl) ?_ _
              have HBZ := Lib.hid (ext_trans HBA.out B15.out)
              generalize wj14 = wz at *
              clear hHeld KEEPX
              go_wp2_with fail
              go_roundw
              case rel => exact ⟨k + 1, by omega, by rw [HSU.out], by rw [HN2.out], by go_num, HBZ⟩
              case measure => simp [intOf]; omega
            · rw [if_pos (by rfl)]
              simp only [List.getElem_toArray, List.getElem_cons_succ, List.getElem_cons_zero]
              go_simp
              go_at_call 24
              refine (or_any x.team wk5).mono ?_
              rintro e wu16 ⟨rfl, hwu⟩
              subst hwu
              show K _ wu16
              refine hK.out _ _ (KEEPX.out wu16 B8.out) (fun hHeld => ?_)
              clear hK K
              try simp only [List.getElem_toArray, List.getElem_cons_succ, List.getElem_cons_zero, Act.put, List.setIfInBounds_toArray, List.set_cons_zero, List.set_cons_succ]
              refine wpAnyH_ready (rs := [7]) (by kernel_rfl) (by simp) ?_
              refine AllReadyH.cons rfl (fun K hK => ?_) AllReadyH.nil
              rw [if_pos (by rfl)]
              simp only [List.getElem_toArray, List.getElem_cons_succ, List.getElem_cons_zero]
              have kc : wu16.cell? ⟨kb7, q, none⟩ = some (.string (bstr kd)) := HKC.out _ _ HK6.out
              go_simp
              refine hK.out _ _ (KEEPX.out wu16 B8.out) (fun hHeld => ?_)
              clear hK K kc
              try simp only [List.getElem_toArray, List.getElem_cons_succ, List.getElem_cons_zero, Act.put, List.setIfInBounds_toArray, List.set_cons_zero, List.set_cons_succ]
              refine wpAnyH_ready (rs := [11]) (by kernel_rfl) (by simp) ?_
              refine AllReadyH.cons rfl (fun K hK => ?_) AllReadyH.nil
              rw [if_pos (by rfl)]
              simp only [List.getElem_toArray, List.getElem_cons_succ, List.getElem_cons_zero]
              go_simp
              have hbb := (Below.refl wu16.heap.size wu16).alloc (Nat.le_refl _) (.cells #[.string (bstr kd), .string (bstr (dashS x.team))] 9)
              have B19 := Lib.hid (ext_trans B8.out hbb)
              clear hbb
              refine hK.out _ _ (KEEPX.out _ B19.out) (fun hHeld => ?_)
              clear hK K
              try simp only [List.getElem_toArray, List.getElem_cons_succ, List.getElem_cons_zero, Act.put, List.setIfInBounds_toArray, List.set_cons_zero, List.set_cons_succ]
              refine wpAnyH_ready (rs := [12]) (by kernel_rfl) (by simp) ?_
              refine AllReadyH.cons rfl (fun K hK => ?_) AllReadyH.nil
              refine step_app_new (w := wu16) (by rfl) (.tmp 58) (.tmp 68) 57 (by rfl) 9 (.string (bstr [])) 1 16 Tryz.underlying57 string_info rfl (by decide) (m := 2) [.string (bstr kd), .string (bstr (dashS x.team))] 0 rfl HO9.out B8.out.size (by rfl) (by rfl) (by rfl) (by decide) (by simp [Value.oneCell']) (by unfold maxLen; omega) (by omega) ?_
              intro g9 c9 w9 HO9 HG9 HE9 HL9
              have HB9 := Lib.hid (HE9.out _ B8.out)
              refine hK.out _ _ (KEEPX.out _ HB9.out) (fun hHeld => ?_)
              clear hK K HG9 HE9 HL9
              try simp only [List.getElem_toArray, List.getElem_cons_succ, List.getElem_cons_zero, Act.put, List.setIfInBounds_toArray, List.set_cons_zero, List.set_cons_succ]
              refine wpAnyH_ready (rs := [13]) (by kernel_rfl) (by simp) ?_
              refine AllReadyH.cons rfl (fun K hK => ?_) AllReadyH.nil
              rw [if_pos (by rfl)]
              simp only [List.getElem_toArray, List.getElem_cons_succ, List.getElem_cons_zero]
              go_simp
              obtain ⟨hc9, hg9, hcl9⟩ := own_cellsT HO9.out (by decide)
              have hjn := joinW_any g9 c9 [x.id, dashS x.pre, Lib.itoa x.frm, Lib.itoa x.to, Lib.itoa x.st, Lib.itoa x.en, Lib.itoa x.made, kd, dashS x.team] w9 (fun j hj => by rw [hcl9 j hj]; rfl) hg9 (by simp) hc9 (by rw [HJ.out]; omega)
              change Calls _ _ #[.slice (some ⟨g9, 0, none⟩) 9 c9, _] _ _ at hjn
              rw [HJ.out] at hjn
              clear hcl9
              go_at_call 19
              refine hjn.mono ?_
              clear hjn
              rintro e wj20 ⟨rfl, hbj⟩
              have B21 := Lib.hid (ext_trans HB9.out hbj)
              clear hbj
              show K _ wj20
              refine hK.out _ _ (KEEPX.out wj20 B21.out) (fun hHeld => ?_)
              clear hK K
              try simp only [List.getElem_toArray, List.getElem_cons_succ, List.getElem_cons_zero, Act.put, List.setIfInBounds_toArray, List.set_cons_zero, List.set_cons_succ]
              refine wpAnyH_take (i := 14) (v := ?_) rfl (by kernel_rfl) (by kernel_rfl) (by kernel_rfl) (fun _ _ _ h => h) (Or.inl ⟨by rfl, ?_⟩) (by assumption) ?_
              rotate_left
              · (intro w hSw; (try (obtain ⟨q0, q1, q2, q3, q4, q5, q6, q7, q8⟩ := hSw)); go_simp; (try rw [if_neg (by omega)]); try with_reducible rfl)
              try simp only [List.getElem_toArray, List.getElem_cons_succ, List.getElem_cons_zero, Act.put, List.setIfInBounds_toArray, List.set_cons_zero, List.set_cons_succ]
              refine wpAnyH_take (i := 15) (v := ?_) rfl (by kernel_rfl) (by kernel_rfl) (by kernel_rfl) (fun _ _ _ h => h) (Or.inl ⟨by rfl, ?_⟩) (by assumption) ?_
              rotate_left
              · (intro w hSw; (try (obtain ⟨q0, q1, q2, q3, q4, q5, q6, q7, q8⟩ := hSw)); go_simp; (try rw [if_neg (by omega)]); try with_reducible rfl)
              try simp only [List.getElem_toArray, List.getElem_cons_succ, List.getElem_cons_zero, Act.put, List.setIfInBounds_toArray, List.set_cons_zero, List.set_cons_succ]
              refine wpAnyH_take (i := 16) (v := ?_) rfl (by kernel_rfl) (by kernel_rfl) (by kernel_rfl) (fun _ _ _ h => h) (Or.inl ⟨by rfl, ?_⟩) (by assumption) ?_
              rotate_left
              · (intro w hSw; (try (obtain ⟨q0, q1, q2, q3, q4, q5, q6, q7, q8⟩ := hSw)); go_simp; (try rw [if_neg (by omega)]); try with_reducible rfl)
              try simp only [List.getElem_toArray, List.getElem_cons_succ, List.getElem_cons_zero, Act.put, List.setIfInBounds_toArray, List.set_cons_zero, List.set_cons_succ]
              refine wpAnyH_done (by kernel_rfl) ?_ _
              have HBZ := Lib.hid (ext_trans HBA.out B21.out)
              generalize wj20 = wz at *
              clear hHeld KEEPX
              go_wp2_with fail
              go_roundw
              case rel => exact ⟨k + 1, by omega, by rw [HSU.out], by rw [HN2.out], by go_num, HBZ⟩
              case measure => simp [intOf]; omega
    · obtain rfl : k = l.length := by omega
      rw [List.take_length]
      have HBF := Lib.hid (ext_trans HB1.out HB.out)
      have HMD := Lib.hid (@tx_dash l HP.out)
      have HM1 := Lib.hid (@tx_large l HP.out)
      have HM2 := Lib.hid (@tx_ok l HP.out)
      have htl := HLN.out l.length (Nat.le_refl _)
      rw [List.take_length] at htl
      clear H1 HOKS HLN HTX HGX HB1
      generalize textL l = tx at *
      cases hdd : hasDash l with
      | true =>
        have HR := Lib.hid (HMD.out hdd)
        clear HM1 HM2 hdd
        go_wp2_with fail
        go_ret2
        exact ⟨by rw [HR.out]; rfl, HBF.out⟩
      | false =>
        have HMA := Lib.hid (HM1.out hdd)
        have HMB := Lib.hid (HM2.out hdd)
        have s3 : (bstr tx).size = tx.length := rfl
        clear HM1 HM2 hdd
        by_cases hlg : 300000 < tx.length
        · have hlg' : (300000 : Int) < (tx.length : Int) := by omega
          have HR := Lib.hid (HMA.out hlg)
          go_wp2_with fail
          go_ret2
          exact ⟨by rw [HR.out]; rfl, HBF.out⟩
        · have hlg' : ¬ (300000 : Int) < (tx.length : Int) := by omega
          have HR := Lib.hid (HMB.out hlg)
          go_wp2_with fail
          go_ret2
          exact ⟨by rw [HR.out]; rfl, HBF.out⟩
end Go.Proofs.YtgilcllfdgdofaaGreatDoor
