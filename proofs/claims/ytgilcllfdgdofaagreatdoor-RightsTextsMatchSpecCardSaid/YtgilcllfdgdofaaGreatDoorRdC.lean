/-
  undash, kinds of package rights; Digits of package message.
-/
import Derived.Test.YtgilcllfdgdofaaGreatDoorRdSh
namespace Go.Proofs.YtgilcllfdgdofaaGreatDoor
open Go.RowKit
set_option linter.unusedVariables false
set_option linter.unusedSimpArgs false

theorem strS_beq {a b : List UInt8} (h : a = b) : ((bstr a).toList == (bstr b).toList) = true := by rw [h]; exact beq_self_eq_true _
theorem strS_bne {a b : List UInt8} (h : a ≠ b) : ((bstr a).toList == (bstr b).toList) = false := by
  rw [beq_eq_false_iff_ne, bstr_toList, bstr_toList]; exact h
theorem belowS_tr {B : Nat} {w a b : World} (h1 : Below B w a) (h2 : Below a.heap.size a b) (hB : B ≤ a.heap.size) : Below B w b := h1.trans (h2.mono hB)
set_option maxRecDepth 100000 in
set_option maxHeartbeats 1000000 in
theorem undash_any (b : List UInt8) (w : World) : Calls Tryz.prog 31 #[.string (bstr b)] w fun e w' => e = .returned (.string (bstr (unDash b))) ∧ w' = w := by
  by_cases h : b = [45]
  · have hd : unDash b = [] := if_pos h
    rw [hd]
    subst h
    have hb1 : ((bstr [45]).toList == [45]) = true := by rw [bstr_toList]; rfl
    clear hd
    go_enter Tryz.func31, Tryz.ntmps31
    go_wp2_with fail
    go_ret
    exact ⟨rfl, rfl⟩
  · have hd : unDash b = b := if_neg h
    rw [hd]
    have hb1 : ((bstr b).toList == [45]) = false := by rw [bstr_toList, beq_eq_false_iff_ne]; exact h
    clear hd h
    go_enter Tryz.func31, Tryz.ntmps31
    go_wp2_with fail
    go_ret
    exact ⟨rfl, rfl⟩
def kindRow : List (List UInt8) := [kAll, kTeam, kHouse, kNone]
theorem kind_idx (s : List UInt8) : (Lib.idxOfS ((kindRow.map bstr).take 4) (bstr s)) + 1 = kindOf s := by
  have hb : ∀ a : List UInt8, (bstr a = bstr s) ↔ s = a := fun a => ⟨fun h => (bstr_inj h).symm, fun h => by rw [h]⟩
  show Lib.idxFromS [bstr kAll, bstr kTeam, bstr kHouse, bstr kNone] (bstr s) 0 + 1 = _
  unfold kindOf
  simp only [Lib.idxFromS, hb]
  repeat' split
  all_goals first | rfl | (exfalso; simp_all; done)
set_option maxRecDepth 100000 in
set_option maxHeartbeats 1000000 in
theorem kinds_any (w : World) : Calls Tryz.prog 21 #[] w fun e w' => e = .returned (.slice (some ⟨w.heap.size, 0, none⟩) 4 4) ∧ w' = w.alloc (.cells (kindRow.map fun x => Value.string (bstr x)).toArray 9) := by
  go_enter Tryz.func21, Tryz.ntmps21
  go_wp2_with fail
  go_ret
  exact ⟨rfl, rfl⟩
set_option maxRecDepth 100000 in
set_option maxHeartbeats 4000000 in
theorem digits_any (b : List UInt8) (w : World) (hb : b.length ≤ 1000000) :
    Calls Tryz.prog 29 #[.string (bstr b), .int .i64 12] w fun e w' => e = .returned (.bool (numB b)) ∧ Below w.heap.size w w' := by
  have hbz : (bstr b).size = b.length := rfl
  cases hbl : b with
  | nil =>
    rw [show numB [] = false from by decide]
    have hz : (bstr ([] : List UInt8)).size = 0 := rfl
    clear hbl hbz hb
    go_enter Tryz.func29, Tryz.ntmps29
    go_wp2_with fail
    go_ret
    exact ⟨rfl, Below.refl _ _⟩
  | cons c0 r =>
  rw [hbl] at hbz hb
  clear hbl
  have hg : ∀ h, (bstr (c0 :: r))[0]'h = c0 := fun _ => rfl
  have hd := Lib.hid (fun w => trim_any (c0 :: r) digSet w (by omega) (by decide) (by decide))
  have HE := Lib.hid (trim_isEmpty (c0 :: r) digSet)
  have hlp : 1 ≤ (c0 :: r).length := by simp
  have HNB : Hid ((c0 :: r).length ≤ 12 → numB (c0 :: r) = ((c0 :: r).all (digSet.contains ·) && !(decide (c0 = 48) && decide (c0 :: r ≠ [48])))) := Lib.hid (fun h9 => by
    unfold numB
    rw [decide_eq_true (show 1 ≤ (c0 :: r).length by simp), decide_eq_true h9, Bool.true_and, Bool.true_and]
    simp)
  have HN9 : Hid (¬ (c0 :: r).length ≤ 12 → numB (c0 :: r) = false) := Lib.hid (fun h9 => by unfold numB; rw [decide_eq_false h9]; simp)
  generalize hbb : c0 :: r = b at *
  have HBB := Lib.hid hbb
  clear hbb
  have hi1 : (1 : Int) ≤ (b.length : Int) := by omega
  by_cases h9 : b.length ≤ 12
  case neg =>
    have hb9 : ¬ (b.length : Int) ≤ 12 := by omega
    rw [HN9.out h9]
    clear h9 HNB HN9 HE hd hg
    go_enter Tryz.func29, Tryz.ntmps29
    go_wp2_with fail
    go_ret
    exact ⟨rfl, Below.refl _ _⟩
  have hb9 : (b.length : Int) ≤ 12 := by omega
  have HN := Lib.hid (HNB.out h9)
  clear h9 HNB HN9
  by_cases hall : b.all (digSet.contains ·) = true
  case neg =>
    have hemx : (bstr (Lib.trimS b digSet)).toList.isEmpty = false := by rw [HE.out]; simpa using hall
    have hwhy : numB b = false := by rw [HN.out]; simp only [Bool.not_eq_true] at hall; rw [hall]; rfl
    rw [hwhy]
    clear hall HE hwhy HN hg
    go_enter Tryz.func29, Tryz.ntmps29
    go_wp2_with fail
    refine (hd.out w).mono ?_
    rintro e w2 ⟨rfl, hb2⟩
    have HB2 := Lib.hid hb2
    clear hb2 hd
    generalize Lib.trimS b digSet = tx at *
    go_wp2_with fail
    go_ret
    exact ⟨rfl, HB2.out⟩
  have hemx : (bstr (Lib.trimS b digSet)).toList.isEmpty = true := HE.out.trans hall
  rw [hall, Bool.true_and] at HN
  have hbb0 : ∀ h, (bstr b)[0]'h = c0 := hg
  by_cases h0 : c0 = 48
  case neg =>
    have hb48 : ((((bstr b)[0]'(by rw [hbz]; exact hlp)).toNat : Int) != 48) = true := by
      rw [hg, bne_iff_ne]
      intro h
      refine h0 ?_
      apply UInt8.toNat_inj.1
      show c0.toNat = 48
      omega
    have hwhy : numB b = true := by rw [HN.out, decide_eq_false h0]; rfl
    rw [hwhy]
    clear hall HE hwhy HN hg hbb0 h0
    go_enter Tryz.func29, Tryz.ntmps29
    go_wp2_with fail
    refine (hd.out w).mono ?_
    rintro e w2 ⟨rfl, hb2⟩
    have HB2 := Lib.hid hb2
    clear hb2 hd
    generalize Lib.trimS b digSet = tx at *
    go_wp2_with fail
    go_ret
    exact ⟨rfl, HB2.out⟩
  have hb48 : ((((bstr b)[0]'(by rw [hbz]; exact hlp)).toNat : Int) != 48) = false := by rw [hg, h0]; rfl
  by_cases h1 : b = [48]
  · have hs1 : ((bstr b).toList == [48]) = true := by rw [bstr_toList, h1]; rfl
    have hwhy : numB b = true := by rw [HN.out, decide_eq_false (show ¬ b ≠ [48] from fun h => h h1), Bool.and_false]; rfl
    rw [hwhy]
    clear hall HE hwhy HN hg hbb0 h0 h1
    go_enter Tryz.func29, Tryz.ntmps29
    go_wp2_with fail
    refine (hd.out w).mono ?_
    rintro e w2 ⟨rfl, hb2⟩
    have HB2 := Lib.hid hb2
    clear hb2 hd
    generalize Lib.trimS b digSet = tx at *
    go_wp2_with fail
    go_ret
    exact ⟨rfl, HB2.out⟩
  · have hs1 : ((bstr b).toList == [48]) = false := by rw [bstr_toList, beq_eq_false_iff_ne]; exact h1
    have hwhy : numB b = false := by rw [HN.out, decide_eq_true h0, decide_eq_true h1]; rfl
    rw [hwhy]
    clear hall HE hwhy HN hg hbb0 h0 h1
    go_enter Tryz.func29, Tryz.ntmps29
    go_wp2_with fail
    refine (hd.out w).mono ?_
    rintro e w2 ⟨rfl, hb2⟩
    have HB2 := Lib.hid hb2
    clear hb2 hd
    generalize Lib.trimS b digSet = tx at *
    go_wp2_with fail
    go_ret
    exact ⟨rfl, HB2.out⟩
end Go.Proofs.YtgilcllfdgdofaaGreatDoor
