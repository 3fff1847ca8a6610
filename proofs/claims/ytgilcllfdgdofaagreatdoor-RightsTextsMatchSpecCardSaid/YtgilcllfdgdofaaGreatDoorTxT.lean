/-
  Text of package rights.
-/
import Derived.Test.YtgilcllfdgdofaaGreatDoorTxSh
import Derived.Test.YtgilcllfdgdofaaGreatDoorAlo
import Derived.Deep.RegionHeld
namespace Go.Proofs.YtgilcllfdgdofaaGreatDoor
open Go.RowKit
set_option linter.unusedVariables false
set_option linter.unusedSimpArgs false

theorem str_plus (a b : List UInt8) : bstr a ++ bstr b = bstr (a ++ b) := by
  apply str_inj
  rw [ByteArray.toList_eq, ByteArray.toList_eq]
  simp [bstr, ByteArray.data_append]
set_option maxRecDepth 100000 in
set_option maxHeartbeats 16000000 in
theorem textRights_any (v : Value) (l : List Rgt) (w : World) (h : (Rp.sl rgtRp).ok w (· < w.heap.size) [v] l) (hT : TI w) :
    Calls Tryz.prog 9 #[v] w fun e w' => e = .returned (.tuple #[.string (bstr (txOut l).1), .int .i64 (txOut l).2]) ∧ Below w.heap.size w w' := by
  obtain ⟨A, c, rfl, hl, hc, _⟩ := Rp.sl_open h
  unfold maxLen at hc
  have H := Lib.hid h
  have HT := Lib.hid hT
  clear h hT
  go_enter Tryz.func9, Tryz.ntmps9
  go_wp2_with fail
  refine (alone_any _ l w H.out).mono ?_
  rintro e w1 ⟨rfl, hb1⟩
  have HB1 := Lib.hid hb1
  have H1 := Lib.hid (Rp.ext _ H.out hb1)
  have HT1 := Lib.hid (HT.out.ext hb1)
  clear hb1 H HT
  by_cases hp : aloFault l = 0
  case neg =>
    have HM := Lib.hid (tx_bad hp)
    generalize aloFault l = pf at *
    go_wp2_with fail
    go_ret2
    exact ⟨by rw [HM.out]; rfl, HB1.out⟩
  have HOKS := Lib.hid (alo_ok hp).2
  have hl3 := (alo_ok hp).1
  have HLN := Lib.hid (textL_len HOKS.out)
  have HP := Lib.hid hp
  rw [hp]
  clear hp
  have HB2 := Lib.hid ((Below.refl w1.heap.size w1).alloc (Nat.le_refl _) (.cells #[.pointer none, .slice none 0 0] 49))
  have HD0 := Lib.hid (BD.new w1)
  have HTX : Hid (∀ w', Below w1.heap.size w1 w' → TI w') := Lib.hid (fun w' hb => HT1.out.ext hb)
  have hbw : w.heap.size ≤ w1.heap.size := HB1.out.size
  have hrtne : 28 ≠ 5 := by decide
  clear HT1
  go_wp2_with fail
  generalize w1.alloc (.cells #[.pointer none, .slice none 0 0] 49) = w2 at *
  generalize w1.heap.size = bb at *
  go_loopw [16] (fun i wr => ∃ k : Nat, k ≤ l.length ∧ i = .int .i64 k ∧ Hid (BD bb (textL (l.take k)) wr) ∧ Hid (Below bb w1 wr) ∧ Hid (hasDash (l.take k) = false)) (fun i _ => l.length - (intOf i).toNat)
  case atStart => exact ⟨0, by omega, rfl, HD0, HB2, Lib.hid rfl⟩
  case round =>
    obtain ⟨k, hk, rfl, HD, HB, HND⟩ := hrel
    by_cases hlt : k < l.length
    · obtain ⟨ad, c', e1, hadb, c0, c1, c2, c3, c4, c5, c6, c7, c8, _⟩ := rgt_at (Rp.below _ H1.out HB.out) hlt
      cases e1
      have HRO : Hid (ROk l[k]) := Lib.hid (HOKS.out _ (List.getElem_mem _))
      obtain ⟨q, hkd, hq4⟩ : ∃ q : Nat, l[k].kind = (q : Int) + 1 ∧ q < 4 := ⟨(l[k].kind - 1).toNat, by have := HRO.out.kind; omega, by have := HRO.out.kind; omega⟩
      have HDS : Hid (l[k].pre = [45] → hasDash l = true) := Lib.hid (fun e => List.any_eq_true.2 ⟨l[k], List.getElem_mem _, by rw [e]; rfl⟩)
      have HN1 : Hid (l[k].pre ≠ [45] → hasDash (l.take (k + 1)) = false) := Lib.hid (fun e => by
        have := HND.out
        unfold hasDash at this ⊢
        rw [List.take_succ_eq_append_getElem hlt, List.any_append, this]
        simpa using e)
      have hkw : kwOf l[k].kind = kindRow.getD q [] := by
        rw [hkd]
        have : q = 0 ∨ q = 1 ∨ q = 2 ∨ q = 3 := by omega
        rcases this with rfl | rfl | rfl | rfl <;> rfl
      have HKC : Hid (∀ (w' : World) (kb : Nat), Blk w' kb 9 (kindRow.map fun x => Value.string (bstr x)) → w'.cell? ⟨kb, q, none⟩ = some (.string (bstr (kindRow.getD q [])))) := Lib.hid (fun w' kb h => by
        rw [h.cell q]
        have : q = 0 ∨ q = 1 ∨ q = 2 ∨ q = 3 := by omega
        rcases this with rfl | rfl | rfl | rfl <;> rfl)
      have hjw := join_words l[k]
      unfold wordsR at hjw
      rw [hkw] at hjw
      have hln := rgT_len HRO.out
      have htl := HLN.out k hk
      have HSU := Lib.hid (textL_succ hlt)
      rw [hkd] at c7
      clear hkd hkw hadb
      generalize kindRow.getD q [] = kd at *
      generalize l[k] = x at *
      generalize hlne : rgT x = ln at *
      generalize textL (l.take k) = tx at *
      have HJ := Lib.hid hjw
      clear hjw hlne HND
      have HX0 := Lib.hid (Blk.new wr 28 [.string (bstr x.id), .string (bstr x.pre), .int .i64 x.frm, .int .i64 x.to, .int .i64 x.st, .int .i64 x.en, .int .i64 x.made, .int .i64 ((q : Int) + 1), .string (bstr x.team)])
      have HBA := Lib.hid (HB.out.alloc (Nat.le_of_lt HD.out.lt) (.cells #[.string (bstr x.id), .string (bstr x.pre), .int .i64 x.frm, .int .i64 x.to, .int .i64 x.st, .int .i64 x.en, .int .i64 x.made, .int .i64 ((q : Int) + 1), .string (bstr x.team)] 28))
      have HDA := Lib.hid (HD.out.ext ((Below.refl wr.heap.size wr).alloc (Nat.le_refl _) (.cells #[.string (bstr x.id), .string (bstr x.pre), .int .i64 x.frm, .int .i64 x.to, .int .i64 x.st, .int .i64 x.en, .int .i64 x.made, .int .i64 ((q : Int) + 1), .string (bstr x.team)] 28)))
      have hxne : wr.heap.size ≠ bb := by have := HD.out.lt; omega
      have hmL : (k : Int) < (l.length : Int) := by omega
      have hxz : wr.heap.size < (wr.alloc (.cells #[.string (bstr x.id), .string (bstr x.pre), .int .i64 x.frm, .int .i64 x.to, .int .i64 x.st, .int .i64 x.en, .int .i64 x.made, .int .i64 ((q : Int) + 1), .string (bstr x.team)] 28)).heap.size := by simp
      have k1 := HX0.out.cell 1
      simp only [List.getElem?_cons_zero, List.getElem?_cons_succ] at k1
      by_cases hd : x.pre = [45]
      · have HR := Lib.hid (tx_dash HP.out (HDS.out hd))
        have HBF := Lib.hid (HB1.out.trans (HBA.out.mono hbw))
        have hde : ((bstr x.pre).toList == [45]) = true := by rw [bstr_toList, hd]; rfl
        clear hd HDS HN1
        go_wp2_with fail
        go_ret2
        exact ⟨by rw [HR.out]; rfl, HBF.out⟩
      have hde : ((bstr x.pre).toList == [45]) = false := by rw [bstr_toList, beq_eq_false_iff_ne]; exact hd
      have HN2 := Lib.hid (HN1.out hd)
      clear HN1 HDS hd
      go_wp2_with fail
      clear c0 c1 c2 c3 c4 c5 c6 c7 c8 k1
      generalize wr.alloc (.cells #[.string (bstr x.id), .string (bstr x.pre), .int .i64 x.frm, .int .i64 x.to, .int .i64 x.st, .int .i64 x.en, .int .i64 x.made, .int .i64 ((q : Int) + 1), .string (bstr x.team)] 28) = wa at *
      generalize wr.heap.size = xb at *
      have KEEPX : Hid (∀ w', Blk w' xb 28 [.string (bstr x.id), .string (bstr x.pre), .int .i64 x.frm, .int .i64 x.to, .int .i64 x.st, .int .i64 x.en, .int .i64 x.made, .int .i64 ((q : Int) + 1), .string (bstr x.team)] → (w'.cell? ⟨xb, 0, none⟩ = some (.string (bstr x.id)) ∧ w'.cell? ⟨xb, 1, none⟩ = some (.string (bstr x.pre)) ∧ w'.cell? ⟨xb, 2, none⟩ = some (.int .i64 x.frm) ∧ w'.cell? ⟨xb, 3, none⟩ = some (.int .i64 x.to) ∧ w'.cell? ⟨xb, 4, none⟩ = some (.int .i64 x.st) ∧ w'.cell? ⟨xb, 5, none⟩ = some (.int .i64 x.en) ∧ w'.cell? ⟨xb, 6, none⟩ = some (.int .i64 x.made) ∧ w'.cell? ⟨xb, 7, none⟩ = some (.int .i64 ((q : Int) + 1)) ∧ w'.cell? ⟨xb, 8, none⟩ = some (.string (bstr x.team)))) := Lib.hid (fun w' hb => ⟨hb.cell 0, hb.cell 1, hb.cell 2, hb.cell 3, hb.cell 4, hb.cell 5, hb.cell 6, hb.cell 7, hb.cell 8⟩)
      have HAJ : bstr ln ++ (⟨#[10]⟩ : ByteArray) = bstr (ln ++ [10]) := str_plus ln [10]
      have sln : (bstr ln).size = ln.length := rfl
      have hwq : IntKind.i64.wrap (q : Int) = (q : Int) := IntWalk.i64_in _ (by omega)
      refine wp_region_held_drew (S := fun w' => w'.cell? ⟨xb, 0, none⟩ = some (.string (bstr x.id)) ∧ w'.cell? ⟨xb, 1, none⟩ = some (.string (bstr x.pre)) ∧ w'.cell? ⟨xb, 2, none⟩ = some (.int .i64 x.frm) ∧ w'.cell? ⟨xb, 3, none⟩ = some (.int .i64 x.to) ∧ w'.cell? ⟨xb, 4, none⟩ = some (.int .i64 x.st) ∧ w'.cell? ⟨xb, 5, none⟩ = some (.int .i64 x.en) ∧ w'.cell? ⟨xb, 6, none⟩ = some (.int .i64 x.made) ∧ w'.cell? ⟨xb, 7, none⟩ = some (.int .i64 ((q : Int) + 1)) ∧ w'.cell? ⟨xb, 8, none⟩ = some (.string (bstr x.team))) (by kernel_rfl) (KEEPX.out _ HX0.out) (fun hHeld => ?_)
      obtain ⟨wq, hwq⟩ : ∃ wq, wq = World.drew wa := ⟨_, rfl⟩
      have HBQ : Hid (Below bb w1 wq) := Lib.hid (by rw [hwq]; exact Below.drew HBA.out)
      have HXQ : Hid (Blk wq xb 28 [.string (bstr x.id), .string (bstr x.pre), .int .i64 x.frm, .int .i64 x.to, .int .i64 x.st, .int .i64 x.en, .int .i64 x.made, .int .i64 ((q : Int) + 1), .string (bstr x.team)]) := Lib.hid (by rw [hwq]; exact HX0.out)
      have HDQ : Hid (BD bb tx wq) := Lib.hid (by rw [hwq]; exact HDA.out.ext (Below.drew (Below.refl _ _)))
      rw [← hwq] at hHeld ⊢
      clear hwq HX0 HBA HDA
      refine wpAnyH_take (i := 0) (v := ?_) rfl (by kernel_rfl) (by kernel_rfl) (by kernel_rfl) (fun _ _ _ h => h) (Or.inl ⟨by rfl, ?_⟩) (by assumption) ?_
      rotate_left
      · (intro w hSw; (try (obtain ⟨q0, q1, q2, q3, q4, q5, q6, q7, q8⟩ := hSw)); go_simp; (try rw [if_neg (by omega)]); try with_reducible rfl)
      try simp only [List.getElem_toArray, List.getElem_cons_succ, List.getElem_cons_zero, Act.put, List.setIfInBounds_toArray, List.set_cons_zero, List.set_cons_succ]
      refine wpAnyH_take (i := 1) (v := ?_) rfl (by kernel_rfl) (by kernel_rfl) (by kernel_rfl) (fun _ _ _ h => h) (Or.inl ⟨by rfl, ?_⟩) (by assumption) ?_
      rotate_left
      · (intro w hSw; (try (obtain ⟨q0, q1, q2, q3, q4, q5, q6, q7, q8⟩ := hSw)); go_simp; (try rw [if_neg (by omega)]); try with_reducible rfl)
      try simp only [List.getElem_toArray, List.getElem_cons_succ, List.getElem_cons_zero, Act.put, List.setIfInBounds_toArray, List.set_cons_zero, List.set_cons_succ]
      refine wpAnyH_take (i := 2) (v := ?_) rfl (by kernel_rfl) (by kernel_rfl) (by kernel_rfl) (fun _ _ _ h => h) (Or.inl ⟨by rfl, ?_⟩) (by assumption) ?_
      rotate_left
      · (intro w hSw; (try (obtain ⟨q0, q1, q2, q3, q4, q5, q6, q7, q8⟩ := hSw)); go_simp; (try rw [if_neg (by omega)]); try with_reducible rfl)
      try simp only [List.getElem_toArray, List.getElem_cons_succ, List.getElem_cons_zero, Act.put, List.setIfInBounds_toArray, List.set_cons_zero, List.set_cons_succ]
      refine wpAnyH_take (i := 3) (v := ?_) rfl (by kernel_rfl) (by kernel_rfl) (by kernel_rfl) (fun _ _ _ h => h) (Or.inl ⟨by rfl, ?_⟩) (by assumption) ?_
      rotate_left
      · (intro w hSw; (try (obtain ⟨q0, q1, q2, q3, q4, q5, q6, q7, q8⟩ := hSw)); go_simp; (try rw [if_neg (by omega)]); try with_reducible rfl)
      try simp only [List.getElem_toArray, List.getElem_cons_succ, List.getElem_cons_zero, Act.put, List.setIfInBounds_toArray, List.set_cons_zero, List.set_cons_succ]
      refine wpAnyH_take (i := 5) (v := ?_) rfl (by kernel_rfl) (by kernel_rfl) (by kernel_rfl) (fun _ _ _ h => h) (Or.inl ⟨by rfl, ?_⟩) (by assumption) ?_
      rotate_left
      · (intro w hSw; (try (obtain ⟨q0, q1, q2, q3, q4, q5, q6, q7, q8⟩ := hSw)); go_simp; (try rw [if_neg (by omega)]); try with_reducible rfl)
      try simp only [List.getElem_toArray, List.getElem_cons_succ, List.getElem_cons_zero, Act.put, List.setIfInBounds_toArray, List.set_cons_zero, List.set_cons_succ]
      refine wpAnyH_take (i := 6) (v := ?_) rfl (by kernel_rfl) (by kernel_rfl) (by kernel_rfl) (fun _ _ _ h => h) (Or.inl ⟨by rfl, ?_⟩) (by assumption) ?_
      rotate_left
      · (intro w hSw; (try (obtain ⟨q0, q1, q2, q3, q4, q5, q6, q7, q8⟩ := hSw)); go_simp; (try rw [if_neg (by omega)]); try with_reducible rfl)
      try simp only [List.getElem_toArray, List.getElem_cons_succ, List.getElem_cons_zero, Act.put, List.setIfInBounds_toArray, List.set_cons_zero, List.set_cons_succ]
      refine wpAnyH_take (i := 7) (v := ?_) rfl (by kernel_rfl) (by kernel_rfl) (by kernel_rfl) (fun _ _ _ h => h) (Or.inl ⟨by rfl, ?_⟩) (by assumption) ?_
      rotate_left
      · (intro w hSw; (try (obtain ⟨q0, q1, q2, q3, q4, q5, q6, q7, q8⟩ := hSw)); go_simp; (try rw [if_neg (by omega)]); try with_reducible rfl)
      try simp only [List.getElem_toArray, List.getElem_cons_succ, List.getElem_cons_zero, Act.put, List.setIfInBounds_toArray, List.set_cons_zero, List.set_cons_succ]
      refine wpAnyH_take (i := 9) (v := ?_) rfl (by kernel_rfl) (by kernel_rfl) (by kernel_rfl) (fun _ _ _ h => h) (Or.inl ⟨by rfl, ?_⟩) (by assumption) ?_
      rotate_left
      · (intro w hSw; (try (obtain ⟨q0, q1, q2, q3, q4, q5, q6, q7, q8⟩ := hSw)); go_simp; (try rw [if_neg (by omega)]); try with_reducible rfl)
      try simp only [List.getElem_toArray, List.getElem_cons_succ, List.getElem_cons_zero, Act.put, List.setIfInBounds_toArray, List.set_cons_zero, List.set_cons_succ]
      refine wpAnyH_take (i := 10) (v := ?_) rfl (by kernel_rfl) (by kernel_rfl) (by kernel_rfl) (fun _ _ _ h => h) (Or.inl ⟨by rfl, ?_⟩) (by assumption) ?_
      rotate_left
      · (intro w hSw; (try (obtain ⟨q0, q1, q2, q3, q4, q5, q6, q7, q8⟩ := hSw)); go_simp; (try rw [if_neg (by omega)]); try with_reducible rfl)
      try simp only [List.getElem_toArray, List.getElem_cons_succ, List.getElem_cons_zero, Act.put, List.setIfInBounds_toArray, List.set_cons_zero, List.set_cons_succ]
      refine wpAnyH_take (i := 11) (v := ?_) rfl (by kernel_rfl) (by kernel_rfl) (by kernel_rfl) (fun _ _ _ h => h) (Or.inl ⟨by rfl, ?_⟩) (by assumption) ?_
      rotate_left
      · (intro w hSw; (try (obtain ⟨q0, q1, q2, q3, q4, q5, q6, q7, q8⟩ := hSw)); go_simp; (try rw [if_neg (by omega)]); try with_reducible rfl)
      try simp only [List.getElem_toArray, List.getElem_cons_succ, List.getElem_cons_zero, Act.put, List.setIfInBounds_toArray, List.set_cons_zero, List.set_cons_succ]
      refine wpAnyH_take (i := 13) (v := ?_) rfl (by kernel_rfl) (by kernel_rfl) (by kernel_rfl) (fun _ _ _ h => h) (Or.inl ⟨by rfl, ?_⟩) (by assumption) ?_
      rotate_left
      · (intro w hSw; (try (obtain ⟨q0, q1, q2, q3, q4, q5, q6, q7, q8⟩ := hSw)); go_simp; (try rw [if_neg (by omega)]); try with_reducible rfl)
      try simp only [List.getElem_toArray, List.getElem_cons_succ, List.getElem_cons_zero, Act.put, List.setIfInBounds_toArray, List.set_cons_zero, List.set_cons_succ]
      refine wpAnyH_take (i := 14) (v := ?_) rfl (by kernel_rfl) (by kernel_rfl) (by kernel_rfl) (fun _ _ _ h => h) (Or.inl ⟨by rfl, ?_⟩) (by assumption) ?_
      rotate_left
      · (intro w hSw; (try (obtain ⟨q0, q1, q2, q3, q4, q5, q6, q7, q8⟩ := hSw)); go_simp; (try rw [if_neg (by omega)]); try with_reducible rfl)
      try simp only [List.getElem_toArray, List.getElem_cons_succ, List.getElem_cons_zero, Act.put, List.setIfInBounds_toArray, List.set_cons_zero, List.set_cons_succ]
      refine wpAnyH_take (i := 15) (v := ?_) rfl (by kernel_rfl) (by kernel_rfl) (by kernel_rfl) (fun _ _ _ h => h) (Or.inl ⟨by rfl, ?_⟩) (by assumption) ?_
      rotate_left
      · (intro w hSw; (try (obtain ⟨q0, q1, q2, q3, q4, q5, q6, q7, q8⟩ := hSw)); go_simp; (try rw [if_neg (by omega)]); try with_reducible rfl)
      try simp only [List.getElem_toArray, List.getElem_cons_succ, List.getElem_cons_zero, Act.put, List.setIfInBounds_toArray, List.set_cons_zero, List.set_cons_succ]
      refine wpAnyH_take (i := 17) (v := ?_) rfl (by kernel_rfl) (by kernel_rfl) (by kernel_rfl) (fun _ _ _ h => h) (Or.inl ⟨by rfl, ?_⟩) (by assumption) ?_
      rotate_left
      · (intro w hSw; (try (obtain ⟨q0, q1, q2, q3, q4, q5, q6, q7, q8⟩ := hSw)); go_simp; (try rw [if_neg (by omega)]); try with_reducible rfl)
      try simp only [List.getElem_toArray, List.getElem_cons_succ, List.getElem_cons_zero, Act.put, List.setIfInBounds_toArray, List.set_cons_zero, List.set_cons_succ]
      refine wpAnyH_take (i := 18) (v := ?_) rfl (by kernel_rfl) (by kernel_rfl) (by kernel_rfl) (fun _ _ _ h => h) (Or.inl ⟨by rfl, ?_⟩) (by assumption) ?_
      rotate_left
      · (intro w hSw; (try (obtain ⟨q0, q1, q2, q3, q4, q5, q6, q7, q8⟩ := hSw)); go_simp; (try rw [if_neg (by omega)]); try with_reducible rfl)
      try simp only [List.getElem_toArray, List.getElem_cons_succ, List.getElem_cons_zero, Act.put, List.setIfInBounds_toArray, List.set_cons_zero, List.set_cons_succ]
      refine wpAnyH_take (i := 19) (v := ?_) rfl (by kernel_rfl) (by kernel_rfl) (by kernel_rfl) (fun _ _ _ h => h) (Or.inl ⟨by rfl, ?_⟩) (by assumption) ?_
      rotate_left
      · (intro w hSw; (try (obtain ⟨q0, q1, q2, q3, q4, q5, q6, q7, q8⟩ := hSw)); go_simp; (try rw [if_neg (by omega)]); try with_reducible rfl)
      try simp only [List.getElem_toArray, List.getElem_cons_succ, List.getElem_cons_zero, Act.put, List.setIfInBounds_toArray, List.set_cons_zero, List.set_cons_succ]
      refine wpAnyH_take (i := 21) (v := ?_) rfl (by kernel_rfl) (by kernel_rfl) (by kernel_rfl) (fun _ _ _ h => h) (Or.inl ⟨by rfl, ?_⟩) (by assumption) ?_
      rotate_left
      · (intro w hSw; (try (obtain ⟨q0, q1, q2, q3, q4, q5, q6, q7, q8⟩ := hSw)); go_simp; (try rw [if_neg (by omega)]); try with_reducible rfl)
      try simp only [List.getElem_toArray, List.getElem_cons_succ, List.getElem_cons_zero, Act.put, List.setIfInBounds_toArray, List.set_cons_zero, List.set_cons_succ]
      refine wpAnyH_take (i := 22) (v := ?_) rfl (by kernel_rfl) (by kernel_rfl) (by kernel_rfl) (fun _ _ _ h => h) (Or.inl ⟨by rfl, ?_⟩) (by assumption) ?_
      rotate_left
      · (intro w hSw; (try (obtain ⟨q0, q1, q2, q3, q4, q5, q6, q7, q8⟩ := hSw)); go_simp; (try rw [if_neg (by omega)]); try with_reducible rfl)
      try simp only [List.getElem_toArray, List.getElem_cons_succ, List.getElem_cons_zero, Act.put, List.setIfInBounds_toArray, List.set_cons_zero, List.set_cons_succ]
      refine wpAnyH_take (i := 23) (v := ?_) rfl (by kernel_rfl) (by kernel_rfl) (by kernel_rfl) (fun _ _ _ h => h) (Or.inl ⟨by rfl, ?_⟩) (by assumption) ?_
      rotate_left
      · (intro w hSw; (try (obtain ⟨q0, q1, q2, q3, q4, q5, q6, q7, q8⟩ := hSw)); go_simp; (try rw [if_neg (by omega)]); try with_reducible rfl)
      try simp only [List.getElem_toArray, List.getElem_cons_succ, List.getElem_cons_zero, Act.put, List.setIfInBounds_toArray, List.set_cons_zero, List.set_cons_succ]
      refine wpAnyH_take (i := 26) (v := ?_) rfl (by kernel_rfl) (by kernel_rfl) (by kernel_rfl) (fun _ _ _ h => h) (Or.inl ⟨by rfl, ?_⟩) (by assumption) ?_
      rotate_left
      · (intro w hSw; (try (obtain ⟨q0, q1, q2, q3, q4, q5, q6, q7, q8⟩ := hSw)); go_simp; (try rw [if_neg (by omega)]); try with_reducible rfl)
      try simp only [List.getElem_toArray, List.getElem_cons_succ, List.getElem_cons_zero, Act.put, List.setIfInBounds_toArray, List.set_cons_zero, List.set_cons_succ]
      refine wpAnyH_take (i := 27) (v := ?_) rfl (by kernel_rfl) (by kernel_rfl) (by kernel_rfl) (fun _ _ _ h => h) (Or.inl ⟨by rfl, ?_⟩) (by assumption) ?_
      rotate_left
      · (intro w hSw; (try (obtain ⟨q0, q1, q2, q3, q4, q5, q6, q7, q8⟩ := hSw)); go_simp; (try rw [if_neg (by omega)]); try with_reducible rfl)
      try simp only [List.getElem_toArray, List.getElem_cons_succ, List.getElem_cons_zero, Act.put, List.setIfInBounds_toArray, List.set_cons_zero, List.set_cons_succ]
      refine wpAnyH_take (i := 28) (v := ?_) rfl (by kernel_rfl) (by kernel_rfl) (by kernel_rfl) (fun _ _ _ h => h) (Or.inl ⟨by rfl, ?_⟩) (by assumption) ?_
      rotate_left
      · (intro w hSw; (try (obtain ⟨q0, q1, q2, q3, q4, q5, q6, q7, q8⟩ := hSw)); go_simp; (try rw [if_neg (by omega)]); try with_reducible rfl)
      try simp only [List.getElem_toArray, List.getElem_cons_succ, List.getElem_cons_zero, Act.put, List.setIfInBounds_toArray, List.set_cons_zero, List.set_cons_succ]
      refine wpAnyH_take (i := 31) (v := ?_) rfl (by kernel_rfl) (by kernel_rfl) (by kernel_rfl) (fun _ _ _ h => h) (Or.inl ⟨by rfl, ?_⟩) (by assumption) ?_
      rotate_left
      · (intro w hSw; (try (obtain ⟨q0, q1, q2, q3, q4, q5, q6, q7, q8⟩ := hSw)); go_simp; (try rw [if_neg (by omega)]); try with_reducible rfl)
      try simp only [List.getElem_toArray, List.getElem_cons_succ, List.getElem_cons_zero, Act.put, List.setIfInBounds_toArray, List.set_cons_zero, List.set_cons_succ]
      refine wpAnyH_take (i := 32) (v := ?_) rfl (by kernel_rfl) (by kernel_rfl) (by kernel_rfl) (fun _ _ _ h => h) (Or.inl ⟨by rfl, ?_⟩) (by assumption) ?_
      rotate_left
      · (intro w hSw; (try (obtain ⟨q0, q1, q2, q3, q4, q5, q6, q7, q8⟩ := hSw)); go_simp; (try rw [if_neg (by omega)]); try with_reducible rfl)
      try simp only [List.getElem_toArray, List.getElem_cons_succ, List.getElem_cons_zero, Act.put, List.setIfInBounds_toArray, List.set_cons_zero, List.set_cons_succ]
      refine wpAnyH_ready (rs := [4]) (by kernel_rfl) (by simp) ?_
      refine AllReadyH.cons rfl (fun K hK => ?_) AllReadyH.nil
      rw [if_pos (by rfl)]
      simp only [List.getElem_toArray, List.getElem_cons_succ, List.getElem_cons_zero]
      go_simp
      go_at_call 20
      refine (dash_any x.pre wq).mono ?_
      rintro e wu ⟨rfl, hwu⟩
      subst hwu
      show K _ wu
      refine hK.out _ _ (KEEPX.out wu HXQ.out) (fun hHeld => ?_)
      clear hK K
      try simp only [List.getElem_toArray, List.getElem_cons_succ, List.getElem_cons_zero, Act.put, List.setIfInBounds_toArray, List.set_cons_zero, List.set_cons_succ]
      refine wpAnyH_ready (rs := [8]) (by kernel_rfl) (by simp) ?_
      refine AllReadyH.cons rfl (fun K hK => ?_) AllReadyH.nil
      rw [if_pos (by rfl)]
      simp only [List.getElem_toArray, List.getElem_cons_succ, List.getElem_cons_zero]
      go_simp
      go_at_call 17
      refine (itoa_any x.frm wu (HTX.out _ HBQ.out) HRO.out.frm.1 HRO.out.frm.2).mono ?_
      rintro e wi1 ⟨rfl, hbi⟩
      have B2 := Lib.hid (HBQ.out.trans (hbi.mono (Nat.le_of_lt HDQ.out.lt)))
      have HX3 := Lib.hid (HXQ.out.same (same_below hbi) HXQ.out.lt)
      have HD4 := Lib.hid (HDQ.out.ext hbi)
      clear hbi
      show K _ wi1
      refine hK.out _ _ (KEEPX.out wi1 HX3.out) (fun hHeld => ?_)
      clear hK K
      try simp only [List.getElem_toArray, List.getElem_cons_succ, List.getElem_cons_zero, Act.put, List.setIfInBounds_toArray, List.set_cons_zero, List.set_cons_succ]
      refine wpAnyH_ready (rs := [12]) (by kernel_rfl) (by simp) ?_
      refine AllReadyH.cons rfl (fun K hK => ?_) AllReadyH.nil
      rw [if_pos (by rfl)]
      simp only [List.getElem_toArray, List.getElem_cons_succ, List.getElem_cons_zero]
      go_simp
      go_at_call 17
      refine (itoa_any x.to wi1 (HTX.out _ B2.out) HRO.out.to.1 HRO.out.to.2).mono ?_
      rintro e wi5 ⟨rfl, hbi⟩
      have B6 := Lib.hid (B2.out.trans (hbi.mono (Nat.le_of_lt HD4.out.lt)))
      have HX7 := Lib.hid (HX3.out.same (same_below hbi) HX3.out.lt)
      have HD8 := Lib.hid (HD4.out.ext hbi)
      clear hbi
      show K _ wi5
      refine hK.out _ _ (KEEPX.out wi5 HX7.out) (fun hHeld => ?_)
      clear hK K
      try simp only [List.getElem_toArray, List.getElem_cons_succ, List.getElem_cons_zero, Act.put, List.setIfInBounds_toArray, List.set_cons_zero, List.set_cons_succ]
      refine wpAnyH_ready (rs := [16]) (by kernel_rfl) (by simp) ?_
      refine AllReadyH.cons rfl (fun K hK => ?_) AllReadyH.nil
      rw [if_pos (by rfl)]
      simp only [List.getElem_toArray, List.getElem_cons_succ, List.getElem_cons_zero]
      go_simp
      go_at_call 17
      refine (itoa_any x.st wi5 (HTX.out _ B6.out) HRO.out.st.1 HRO.out.st.2).mono ?_
      rintro e wi9 ⟨rfl, hbi⟩
      have B10 := Lib.hid (B6.out.trans (hbi.mono (Nat.le_of_lt HD8.out.lt)))
      have HX11 := Lib.hid (HX7.out.same (same_below hbi) HX7.out.lt)
      have HD12 := Lib.hid (HD8.out.ext hbi)
      clear hbi
      show K _ wi9
      refine hK.out _ _ (KEEPX.out wi9 HX11.out) (fun hHeld => ?_)
      clear hK K
      try simp only [List.getElem_toArray, List.getElem_cons_succ, List.getElem_cons_zero, Act.put, List.setIfInBounds_toArray, List.set_cons_zero, List.set_cons_succ]
      refine wpAnyH_ready (rs := [20]) (by kernel_rfl) (by simp) ?_
      refine AllReadyH.cons rfl (fun K hK => ?_) AllReadyH.nil
      rw [if_pos (by rfl)]
      simp only [List.getElem_toArray, List.getElem_cons_succ, List.getElem_cons_zero]
      go_simp
      go_at_call 17
      refine (itoa_any x.en wi9 (HTX.out _ B10.out) HRO.out.en.1 HRO.out.en.2).mono ?_
      rintro e wi13 ⟨rfl, hbi⟩
      have B14 := Lib.hid (B10.out.trans (hbi.mono (Nat.le_of_lt HD12.out.lt)))
      have HX15 := Lib.hid (HX11.out.same (same_below hbi) HX11.out.lt)
      have HD16 := Lib.hid (HD12.out.ext hbi)
      clear hbi
      show K _ wi13
      refine hK.out _ _ (KEEPX.out wi13 HX15.out) (fun hHeld => ?_)
      clear hK K
      try simp only [List.getElem_toArray, List.getElem_cons_succ, List.getElem_cons_zero, Act.put, List.setIfInBounds_toArray, List.set_cons_zero, List.set_cons_succ]
      refine wpAnyH_ready (rs := [24]) (by kernel_rfl) (by simp) ?_
      refine AllReadyH.cons rfl (fun K hK => ?_) AllReadyH.nil
      rw [if_pos (by rfl)]
      simp only [List.getElem_toArray, List.getElem_cons_succ, List.getElem_cons_zero]
      go_simp
      go_at_call 17
      refine (itoa_any x.made wi13 (HTX.out _ B14.out) HRO.out.made.1 HRO.out.made.2).mono ?_
      rintro e wi17 ⟨rfl, hbi⟩
      have B18 := Lib.hid (B14.out.trans (hbi.mono (Nat.le_of_lt HD16.out.lt)))
      have HX19 := Lib.hid (HX15.out.same (same_below hbi) HX15.out.lt)
      have HD20 := Lib.hid (HD16.out.ext hbi)
      clear hbi
      show K _ wi17
      refine hK.out _ _ (KEEPX.out wi17 HX19.out) (fun hHeld => ?_)
      clear hK K
      try simp only [List.getElem_toArray, List.getElem_cons_succ, List.getElem_cons_zero, Act.put, List.setIfInBounds_toArray, List.set_cons_zero, List.set_cons_succ]
      refine wpAnyH_ready (rs := [25]) (by kernel_rfl) (by simp) ?_
      refine AllReadyH.cons rfl (fun K hK => ?_) AllReadyH.nil
      rw [if_pos (by rfl)]
      simp only [List.getElem_toArray, List.getElem_cons_succ, List.getElem_cons_zero]
      go_simp
      go_at_call 21
      refine (kinds_any wi17).mono ?_
      rintro e wk21 ⟨rfl, hwk⟩
      have hbk := (Below.refl wi17.heap.size wi17).alloc (Nat.le_refl _) (.cells (kindRow.map fun x => Value.string (bstr x)).toArray 9)
      have hkk := Blk.new wi17 9 (kindRow.map fun x => Value.string (bstr x))
      rw [← hwk] at hbk hkk
      clear hwk
      have B24 := Lib.hid (B18.out.trans (hbk.mono (Nat.le_of_lt HD20.out.lt)))
      have HX25 := Lib.hid (HX19.out.same (same_below hbk) HX19.out.lt)
      have HD26 := Lib.hid (HD20.out.ext hbk)
      have HK22 := Lib.hid hkk
      clear hbk hkk
      generalize wi17.heap.size = kb23 at *
      show K _ wk21
      refine hK.out _ _ (KEEPX.out wk21 HX25.out) (fun hHeld => ?_)
      clear hK K
      try simp only [List.getElem_toArray, List.getElem_cons_succ, List.getElem_cons_zero, Act.put, List.setIfInBounds_toArray, List.set_cons_zero, List.set_cons_succ]
      refine wpAnyH_take (i := 29) (v := ?_) rfl (by kernel_rfl) (by kernel_rfl) (by kernel_rfl) (fun _ _ _ h => h) (Or.inl ⟨by rfl, ?_⟩) (by assumption) ?_
      rotate_left
      · (intro w hSw; (try (obtain ⟨q0, q1, q2, q3, q4, q5, q6, q7, q8⟩ := hSw)); go_simp; (try rw [hwq]); (try rw [if_pos (by omega)]); (try rw [Int.toNat_natCast]); try with_reducible rfl)
      try simp only [List.getElem_toArray, List.getElem_cons_succ, List.getElem_cons_zero, Act.put, List.setIfInBounds_toArray, List.set_cons_zero, List.set_cons_succ]
      refine wpAnyH_ready (rs := [30, 33]) (by kernel_rfl) (by simp) ?_
      refine AllReadyH.cons rfl (fun K hK => ?_) (AllReadyH.cons rfl (fun K hK => ?_) AllReadyH.nil)
      · rw [if_pos (by rfl)]
        simp only [List.getElem_toArray, List.getElem_cons_succ, List.getElem_cons_zero]
        have kc : wk21.cell? ⟨kb23, q, none⟩ = some (.string (bstr kd)) := HKC.out _ _ HK22.out
        go_simp
        refine hK.out _ _ (KEEPX.out wk21 HX25.out) (fun hHeld => ?_)
        clear hK K kc
        try simp only [List.getElem_toArray, List.getElem_cons_succ, List.getElem_cons_zero, Act.put, List.setIfInBounds_toArray, List.set_cons_zero, List.set_cons_succ]
        refine wpAnyH_ready (rs := [33]) (by kernel_rfl) (by simp) ?_
        refine AllReadyH.cons rfl (fun K hK => ?_) AllReadyH.nil
        rw [if_pos (by rfl)]
        simp only [List.getElem_toArray, List.getElem_cons_succ, List.getElem_cons_zero]
        go_simp
        go_at_call 20
        refine (dash_any x.team wk21).mono ?_
        rintro e wu ⟨rfl, hwu⟩
        subst hwu
        show K _ wu
        refine hK.out _ _ (KEEPX.out wu HX25.out) (fun hHeld => ?_)
        clear hK K
        try simp only [List.getElem_toArray, List.getElem_cons_succ, List.getElem_cons_zero, Act.put, List.setIfInBounds_toArray, List.set_cons_zero, List.set_cons_succ]
        refine wpAnyH_ready (rs := [34]) (by kernel_rfl) (by simp) ?_
        refine AllReadyH.cons rfl (fun K hK => ?_) AllReadyH.nil
        rw [if_pos (by rfl)]
        simp only [List.getElem_toArray, List.getElem_cons_succ, List.getElem_cons_zero]
        go_simp
        have hbb := (Below.refl wu.heap.size wu).alloc (Nat.le_refl _) (.cells #[.string (bstr x.id), .string (bstr (dashS x.pre)), .string (bstr (Lib.itoa x.frm)), .string (bstr (Lib.itoa x.to)), .string (bstr (Lib.itoa x.st)), .string (bstr (Lib.itoa x.en)), .string (bstr (Lib.itoa x.made)), .string (bstr kd), .string (bstr (dashS x.team))] 9)
        have hww := Blk.new wu 9 [.string (bstr x.id), .string (bstr (dashS x.pre)), .string (bstr (Lib.itoa x.frm)), .string (bstr (Lib.itoa x.to)), .string (bstr (Lib.itoa x.st)), .string (bstr (Lib.itoa x.en)), .string (bstr (Lib.itoa x.made)), .string (bstr kd), .string (bstr (dashS x.team))]
        have B30 := Lib.hid (B24.out.trans (hbb.mono (Nat.le_of_lt HD26.out.lt)))
        have HX31 := Lib.hid (HX25.out.same (same_below hbb) HX25.out.lt)
        have HD32 := Lib.hid (HD26.out.ext hbb)
        have HK33 := Lib.hid (HK22.out.same (same_below hbb) HK22.out.lt)
        have HW28 := Lib.hid hww
        clear hbb hww
        refine hK.out _ _ (KEEPX.out _ HX31.out) (fun hHeld => ?_)
        clear hK K
        try simp only [List.getElem_toArray, List.getElem_cons_succ, List.getElem_cons_zero, Act.put, List.setIfInBounds_toArray, List.set_cons_zero, List.set_cons_succ]
        generalize hwz : wu.alloc (.cells #[.string (bstr x.id), .string (bstr (dashS x.pre)), .string (bstr (Lib.itoa x.frm)), .string (bstr (Lib.itoa x.to)), .string (bstr (Lib.itoa x.st)), .string (bstr (Lib.itoa x.en)), .string (bstr (Lib.itoa x.made)), .string (bstr kd), .string (bstr (dashS x.team))] 9) = wb27 at *
        generalize wu.heap.size = wbk29 at *
        clear hwz
        refine wpAnyH_ready (rs := [35]) (by kernel_rfl) (by simp) ?_
        refine AllReadyH.cons rfl (fun K hK => ?_) AllReadyH.nil
        rw [if_pos (by rfl)]
        simp only [List.getElem_toArray, List.getElem_cons_succ, List.getElem_cons_zero]
        go_simp
        have hjn := joinW_any wbk29 9 [x.id, dashS x.pre, Lib.itoa x.frm, Lib.itoa x.to, Lib.itoa x.st, Lib.itoa x.en, Lib.itoa x.made, kd, dashS x.team] wb27 (fun j hj => HW28.out.cell j) HW28.out.lt (by simp) (by simp) (by rw [HJ.out]; omega)
        change Calls _ _ #[.slice (some ⟨wbk29, 0, none⟩) 9 9, _] _ _ at hjn
        rw [HJ.out] at hjn
        go_at_call 19
        refine hjn.mono ?_
        clear hjn
        rintro e wj34 ⟨rfl, hbj⟩
        have B35 := Lib.hid (B30.out.trans (hbj.mono (Nat.le_of_lt HD32.out.lt)))
        have HX36 := Lib.hid (HX31.out.same (same_below hbj) HX31.out.lt)
        have HD37 := Lib.hid (HD32.out.ext hbj)
        have HK38 := Lib.hid (HK33.out.same (same_below hbj) HK33.out.lt)
        clear hbj
        show K _ wj34
        refine hK.out _ _ (KEEPX.out wj34 HX36.out) (fun hHeld => ?_)
        clear hK K
        try simp only [List.getElem_toArray, List.getElem_cons_succ, List.getElem_cons_zero, Act.put, List.setIfInBounds_toArray, List.set_cons_zero, List.set_cons_succ]
        refine wpAnyH_take (i := 36) (v := ?_) rfl (by kernel_rfl) (by kernel_rfl) (by kernel_rfl) (fun _ _ _ h => h) (Or.inl ⟨by rfl, ?_⟩) (by assumption) ?_
        rotate_left
        · (intro w hSw; (try (obtain ⟨q0, q1, q2, q3, q4, q5, q6, q7, q8⟩ := hSw)); go_simp; (try rw [if_neg (by omega)]); try with_reducible rfl)
        try simp only [List.getElem_toArray, List.getElem_cons_succ, List.getElem_cons_zero, Act.put, List.setIfInBounds_toArray, List.set_cons_zero, List.set_cons_succ]
        refine wpAnyH_ready (rs := [37]) (by kernel_rfl) (by simp) ?_
        refine AllReadyH.cons rfl (fun K hK => ?_) AllReadyH.nil
        rw [if_pos (by rfl)]
        simp only [List.getElem_toArray, List.getElem_cons_succ, List.getElem_cons_zero]
        go_simp
        go_at_call 18
        refine (write_any bb tx (ln ++ [10]) wj34 HD37.out (by simp; omega)).mono ?_
        rintro e ww39 ⟨rfl, hbd, hbw, hok⟩
        have HDN := Lib.hid hbd
        have HXN := Lib.hid (kept_blk hok HX36.out hxne hrtne)
        have HBN := Lib.hid (B35.out.trans hbw)
        clear hbd hbw hok
        show K _ ww39
        refine hK.out _ _ (KEEPX.out ww39 HXN.out) (fun hHeld => ?_)
        clear hK K
        try simp only [List.getElem_toArray, List.getElem_cons_succ, List.getElem_cons_zero, Act.put, List.setIfInBounds_toArray, List.set_cons_zero, List.set_cons_succ]
        refine wpAnyH_done (by kernel_rfl) ?_ _
        generalize ww39 = wz at *
        clear hHeld KEEPX
        go_wp2_with fail
        go_roundw
        case rel => exact ⟨k + 1, by omega, by go_num, Lib.hid (by rw [HSU.out]; exact HDN.out), HBN, HN2⟩
        case measure => simp [intOf]; omega
      · rw [if_pos (by rfl)]
        simp only [List.getElem_toArray, List.getElem_cons_succ, List.getElem_cons_zero]
        go_simp
        go_at_call 20
        refine (dash_any x.team wk21).mono ?_
        rintro e wu ⟨rfl, hwu⟩
        subst hwu
        show K _ wu
        refine hK.out _ _ (KEEPX.out wu HX25.out) (fun hHeld => ?_)
        clear hK K
        try simp only [List.getElem_toArray, List.getElem_cons_succ, List.getElem_cons_zero, Act.put, List.setIfInBounds_toArray, List.set_cons_zero, List.set_cons_succ]
        refine wpAnyH_ready (rs := [30]) (by kernel_rfl) (by simp) ?_
        refine AllReadyH.cons rfl (fun K hK => ?_) AllReadyH.nil
        rw [if_pos (by rfl)]
        simp only [List.getElem_toArray, List.getElem_cons_succ, List.getElem_cons_zero]
        have kc : wu.cell? ⟨kb23, q, none⟩ = some (.string (bstr kd)) := HKC.out _ _ HK22.out
        go_simp
        refine hK.out _ _ (KEEPX.out wu HX25.out) (fun hHeld => ?_)
        clear hK K kc
        try simp only [List.getElem_toArray, List.getElem_cons_succ, List.getElem_cons_zero, Act.put, List.setIfInBounds_toArray, List.set_cons_zero, List.set_cons_succ]
        refine wpAnyH_ready (rs := [34]) (by kernel_rfl) (by simp) ?_
        refine AllReadyH.cons rfl (fun K hK => ?_) AllReadyH.nil
        rw [if_pos (by rfl)]
        simp only [List.getElem_toArray, List.getElem_cons_succ, List.getElem_cons_zero]
        go_simp
        have hbb := (Below.refl wu.heap.size wu).alloc (Nat.le_refl _) (.cells #[.string (bstr x.id), .string (bstr (dashS x.pre)), .string (bstr (Lib.itoa x.frm)), .string (bstr (Lib.itoa x.to)), .string (bstr (Lib.itoa x.st)), .string (bstr (Lib.itoa x.en)), .string (bstr (Lib.itoa x.made)), .string (bstr kd), .string (bstr (dashS x.team))] 9)
        have hww := Blk.new wu 9 [.string (bstr x.id), .string (bstr (dashS x.pre)), .string (bstr (Lib.itoa x.frm)), .string (bstr (Lib.itoa x.to)), .string (bstr (Lib.itoa x.st)), .string (bstr (Lib.itoa x.en)), .string (bstr (Lib.itoa x.made)), .string (bstr kd), .string (bstr (dashS x.team))]
        have B43 := Lib.hid (B24.out.trans (hbb.mono (Nat.le_of_lt HD26.out.lt)))
        have HX44 := Lib.hid (HX25.out.same (same_below hbb) HX25.out.lt)
        have HD45 := Lib.hid (HD26.out.ext hbb)
        have HK46 := Lib.hid (HK22.out.same (same_below hbb) HK22.out.lt)
        have HW41 := Lib.hid hww
        clear hbb hww
        refine hK.out _ _ (KEEPX.out _ HX44.out) (fun hHeld => ?_)
        clear hK K
        try simp only [List.getElem_toArray, List.getElem_cons_succ, List.getElem_cons_zero, Act.put, List.setIfInBounds_toArray, List.set_cons_zero, List.set_cons_succ]
        generalize hwz : wu.alloc (.cells #[.string (bstr x.id), .string (bstr (dashS x.pre)), .string (bstr (Lib.itoa x.frm)), .string (bstr (Lib.itoa x.to)), .string (bstr (Lib.itoa x.st)), .string (bstr (Lib.itoa x.en)), .string (bstr (Lib.itoa x.made)), .string (bstr kd), .string (bstr (dashS x.team))] 9) = wb40 at *
        generalize wu.heap.size = wbk42 at *
        clear hwz
        refine wpAnyH_ready (rs := [35]) (by kernel_rfl) (by simp) ?_
        refine AllReadyH.cons rfl (fun K hK => ?_) AllReadyH.nil
        rw [if_pos (by rfl)]
        simp only [List.getElem_toArray, List.getElem_cons_succ, List.getElem_cons_zero]
        go_simp
        have hjn := joinW_any wbk42 9 [x.id, dashS x.pre, Lib.itoa x.frm, Lib.itoa x.to, Lib.itoa x.st, Lib.itoa x.en, Lib.itoa x.made, kd, dashS x.team] wb40 (fun j hj => HW41.out.cell j) HW41.out.lt (by simp) (by simp) (by rw [HJ.out]; omega)
        change Calls _ _ #[.slice (some ⟨wbk42, 0, none⟩) 9 9, _] _ _ at hjn
        rw [HJ.out] at hjn
        go_at_call 19
        refine hjn.mono ?_
        clear hjn
        rintro e wj47 ⟨rfl, hbj⟩
        have B48 := Lib.hid (B43.out.trans (hbj.mono (Nat.le_of_lt HD45.out.lt)))
        have HX49 := Lib.hid (HX44.out.same (same_below hbj) HX44.out.lt)
        have HD50 := Lib.hid (HD45.out.ext hbj)
        have HK51 := Lib.hid (HK46.out.same (same_below hbj) HK46.out.lt)
        clear hbj
        show K _ wj47
        refine hK.out _ _ (KEEPX.out wj47 HX49.out) (fun hHeld => ?_)
        clear hK K
        try simp only [List.getElem_toArray, List.getElem_cons_succ, List.getElem_cons_zero, Act.put, List.setIfInBounds_toArray, List.set_cons_zero, List.set_cons_succ]
        refine wpAnyH_take (i := 36) (v := ?_) rfl (by kernel_rfl) (by kernel_rfl) (by kernel_rfl) (fun _ _ _ h => h) (Or.inl ⟨by rfl, ?_⟩) (by assumption) ?_
        rotate_left
        · (intro w hSw; (try (obtain ⟨q0, q1, q2, q3, q4, q5, q6, q7, q8⟩ := hSw)); go_simp; (try rw [if_neg (by omega)]); try with_reducible rfl)
        try simp only [List.getElem_toArray, List.getElem_cons_succ, List.getElem_cons_zero, Act.put, List.setIfInBounds_toArray, List.set_cons_zero, List.set_cons_succ]
        refine wpAnyH_ready (rs := [37]) (by kernel_rfl) (by simp) ?_
        refine AllReadyH.cons rfl (fun K hK => ?_) AllReadyH.nil
        rw [if_pos (by rfl)]
        simp only [List.getElem_toArray, List.getElem_cons_succ, List.getElem_cons_zero]
        go_simp
        go_at_call 18
        refine (write_any bb tx (ln ++ [10]) wj47 HD50.out (by simp; omega)).mono ?_
        rintro e ww52 ⟨rfl, hbd, hbw, hok⟩
        have HDN := Lib.hid hbd
        have HXN := Lib.hid (kept_blk hok HX49.out hxne hrtne)
        have HBN := Lib.hid (B48.out.trans hbw)
        clear hbd hbw hok
        show K _ ww52
        refine hK.out _ _ (KEEPX.out ww52 HXN.out) (fun hHeld => ?_)
        clear hK K
        try simp only [List.getElem_toArray, List.getElem_cons_succ, List.getElem_cons_zero, Act.put, List.setIfInBounds_toArray, List.set_cons_zero, List.set_cons_succ]
        refine wpAnyH_done (by kernel_rfl) ?_ _
        generalize ww52 = wz at *
        clear hHeld KEEPX
        go_wp2_with fail
        go_roundw
        case rel => exact ⟨k + 1, by omega, by go_num, Lib.hid (by rw [HSU.out]; exact HDN.out), HBN, HN2⟩
        case measure => simp [intOf]; omega
    · obtain rfl : k = l.length := by omega
      have HDF : Hid (BD bb (textL l) wr) := Lib.hid (by have := HD.out; rwa [List.take_length] at this)
      have HNF : Hid (hasDash l = false) := Lib.hid (by have := HND.out; rwa [List.take_length] at this)
      have HBF := Lib.hid (HB1.out.trans (HB.out.mono hbw))
      have HM1 := Lib.hid (@tx_large l HP.out HNF.out)
      have HM2 := Lib.hid (@tx_ok l HP.out HNF.out)
      have htl := HLN.out l.length (Nat.le_refl _)
      rw [List.take_length] at htl
      clear HD HND HNF H1 HOKS HLN HD0 HB2 HTX
      generalize textL l = tx at *
      go_wp2_with fail
      refine (blen_any bb tx wr HDF.out).mono ?_
      rintro e w5 ⟨rfl, hw⟩
      subst hw
      by_cases hlg : 300000 < tx.length
      · have hlg' : (300000 : Int) < (tx.length : Int) := by omega
        have HR := Lib.hid (HM1.out hlg)
        go_wp2_with fail
        go_ret2
        exact ⟨by rw [HR.out]; rfl, HBF.out⟩
      · have hlg' : ¬ (300000 : Int) < (tx.length : Int) := by omega
        have HR := Lib.hid (HM2.out hlg)
        go_wp2_with fail
        refine (bstring_any bb tx _ HDF.out).mono ?_
        rintro e w6 ⟨rfl, hb6⟩
        have HB6 := Lib.hid (HBF.out.trans (hb6.mono hbw))
        clear hb6
        go_wp2_with fail
        go_ret2
        exact ⟨by rw [HR.out]; rfl, HB6.out⟩
end Go.Proofs.YtgilcllfdgdofaaGreatDoor
