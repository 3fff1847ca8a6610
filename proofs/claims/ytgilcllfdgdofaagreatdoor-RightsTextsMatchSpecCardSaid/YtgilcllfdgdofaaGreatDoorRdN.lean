/-
  number, isWord, bare and the words of kinds of the reference of chapter 10.
-/
import Derived.Test.YtgilcllfdgdofaaGreatDoorRdC
import Derived.Deep.RegionLaw
namespace Go.Proofs.YtgilcllfdgdofaaGreatDoor
open Go.RowKit
set_option linter.unusedVariables false
set_option linter.unusedSimpArgs false

def numR (b : List UInt8) : Int := if numB b = true then numV b else 0
set_option maxRecDepth 100000 in
set_option maxHeartbeats 4000000 in
theorem hnumber_any (b : List UInt8) (w : World) (hb : b.length ≤ 1000000) :
    Calls Tryz.prog 37 #[.string (bstr b)] w fun e w' => e = .returned (.tuple #[.int .i64 (numR b), .bool (numB b)]) ∧ Below w.heap.size w w' := by
  have hbz : (bstr b).size = b.length := rfl
  cases hbl : b with
  | nil =>
    have HR0 : Hid (numR [] = 0) := Lib.hid (by decide)
    have HF : Hid (numB [] = false) := Lib.hid (by decide)
    have hem : (bstr ([] : List UInt8)).toList.isEmpty = true := by rw [bstr_toList]; rfl
    clear hbl hbz hb
    go_enter Tryz.func37, Tryz.ntmps37
    go_wp2_with fail
    go_ret2
    exact ⟨by rw [HR0.out, HF.out]; rfl, Below.refl _ _⟩
  | cons c0 r =>
  rw [hbl] at hbz hb
  clear hbl
  have hem : (bstr (c0 :: r)).toList.isEmpty = false := by rw [bstr_toList]; rfl
  have hg : ∀ h, (bstr (c0 :: r))[0]'h = c0 := fun _ => rfl
  have hd := Lib.hid (fun w => trim_any (c0 :: r) digSet w (by omega) (by decide) (by decide))
  have HE := Lib.hid (trim_isEmpty (c0 :: r) digSet)
  have hlp : 1 ≤ (c0 :: r).length := by simp
  have HNB : Hid ((c0 :: r).length ≤ 12 → numB (c0 :: r) = ((c0 :: r).all (digSet.contains ·) && !(decide (c0 = 48) && decide (c0 :: r ≠ [48])))) := Lib.hid (fun h9 => by
    unfold numB
    rw [decide_eq_true (show 1 ≤ (c0 :: r).length by simp), decide_eq_true h9, Bool.true_and, Bool.true_and]
    simp)
  have HN9 : Hid (¬ (c0 :: r).length ≤ 12 → numB (c0 :: r) = false) := Lib.hid (fun h9 => by unfold numB; rw [decide_eq_false h9]; simp)
  have HL1 : Hid (c0 :: r ≠ [48] → c0 = 48 → 1 < (c0 :: r).length) := Lib.hid (fun h e => by
    cases r with
    | nil => exact absurd (by rw [e]) h
    | cons _ _ => simp)
  generalize hbb : c0 :: r = b at *
  have HBB := Lib.hid hbb
  clear hbb
  by_cases h9 : b.length ≤ 12
  case neg =>
    have hb9 : (12 : Int) < (b.length : Int) := by omega
    go_enter Tryz.func37, Tryz.ntmps37
    have HF : Hid (numB b = false) := Lib.hid (HN9.out h9)
    have HR0 : Hid (numR b = 0) := Lib.hid (if_neg (by rw [HF.out]; decide))
    go_wp2_with fail
    go_ret2
    exact ⟨by rw [HR0.out, HF.out]; rfl, Below.refl _ _⟩
  have hb9 : ¬ (12 : Int) < (b.length : Int) := by omega
  have HN := Lib.hid (HNB.out h9)
  clear HNB HN9
  by_cases hbad : c0 = 48 ∧ b ≠ [48]
  · have hl1 := HL1.out hbad.2 hbad.1
    have hb1 : (1 : Int) < (b.length : Int) := by omega
    have hb48 : ((((bstr b)[0]'(by rw [hbz]; exact hlp)).toNat : Int) == 48) = true := by rw [hg, hbad.1]; rfl
    have hwhy : numB b = false := by rw [HN.out, decide_eq_true hbad.1, decide_eq_true hbad.2]; simp
    clear hg hbad hl1
    go_enter Tryz.func37, Tryz.ntmps37
    have HF : Hid (numB b = false) := Lib.hid (hwhy)
    have HR0 : Hid (numR b = 0) := Lib.hid (if_neg (by rw [HF.out]; decide))
    go_wp2_with fail
    go_ret2
    exact ⟨by rw [HR0.out, HF.out]; rfl, Below.refl _ _⟩
  have HN2 : Hid (numB b = b.all (digSet.contains ·)) := Lib.hid (by
    rw [HN.out]
    by_cases e : c0 = 48
    · have : b = [48] := Decidable.byContradiction fun h => hbad ⟨e, h⟩
      rw [decide_eq_false (show ¬ b ≠ [48] from fun h => h this)]; simp
    · rw [decide_eq_false e]; simp)
  by_cases h1 : 1 < b.length
  · have hb1 : (1 : Int) < (b.length : Int) := by omega
    have hb48 : ((((bstr b)[0]'(by rw [hbz]; exact hlp)).toNat : Int) == 48) = false := by
      rw [hg, beq_eq_false_iff_ne]
      intro h
      refine hbad ⟨?_, fun e => by rw [e] at h1; simp at h1⟩
      apply UInt8.toNat_inj.1
      show c0.toNat = 48
      omega
    clear hg hbad h1 HN HL1
    go_enter Tryz.func37, Tryz.ntmps37
    go_wp2_with fail
    refine (hd.out w).mono ?_
    rintro e w2 ⟨rfl, hb2⟩
    have HB2 := Lib.hid hb2
    clear hb2 hd
    generalize Lib.trimS b digSet = tx at *
    by_cases hall : b.all (digSet.contains ·) = true
    case neg =>
      have hemx : (bstr tx).toList.isEmpty = false := by rw [HE.out]; simpa using hall
      have hwhy : numB b = false := by rw [HN2.out]; simpa using hall
      clear hall HE
      have HF : Hid (numB b = false) := Lib.hid (hwhy)
      have HR0 : Hid (numR b = 0) := Lib.hid (if_neg (by rw [HF.out]; decide))
      go_wp2_with fail
      go_ret2
      exact ⟨by rw [HR0.out, HF.out]; rfl, HB2.out⟩
    have hemx : (bstr tx).toList.isEmpty = true := HE.out.trans hall
    have hnum : numB b = true := HN2.out.trans hall
    have hca := Lib.hid (atoi_any b w2 hnum)
    have HF := Lib.hid hnum
    have HR0 : Hid (numR b = numV b) := Lib.hid (if_pos hnum)
    clear hall HE hnum
    go_wp2_with fail
    refine hca.out.mono ?_
    rintro e w3 ⟨rfl, hb3⟩
    have HB3 := Lib.hid (belowS_tr HB2.out hb3 HB2.out.size)
    clear hb3 hca
    go_wp2_with fail
    go_ret2
    exact ⟨by rw [HR0.out, HF.out]; rfl, HB3.out⟩
  · have hb1 : ¬ (1 : Int) < (b.length : Int) := by omega
    clear hg hbad h1 HN HL1
    go_enter Tryz.func37, Tryz.ntmps37
    go_wp2_with fail
    refine (hd.out w).mono ?_
    rintro e w2 ⟨rfl, hb2⟩
    have HB2 := Lib.hid hb2
    clear hb2 hd
    generalize Lib.trimS b digSet = tx at *
    by_cases hall : b.all (digSet.contains ·) = true
    case neg =>
      have hemx : (bstr tx).toList.isEmpty = false := by rw [HE.out]; simpa using hall
      have hwhy : numB b = false := by rw [HN2.out]; simpa using hall
      clear hall HE
      have HF : Hid (numB b = false) := Lib.hid (hwhy)
      have HR0 : Hid (numR b = 0) := Lib.hid (if_neg (by rw [HF.out]; decide))
      go_wp2_with fail
      go_ret2
      exact ⟨by rw [HR0.out, HF.out]; rfl, HB2.out⟩
    have hemx : (bstr tx).toList.isEmpty = true := HE.out.trans hall
    have hnum : numB b = true := HN2.out.trans hall
    have hca := Lib.hid (atoi_any b w2 hnum)
    have HF := Lib.hid hnum
    have HR0 : Hid (numR b = numV b) := Lib.hid (if_pos hnum)
    clear hall HE hnum
    go_wp2_with fail
    refine hca.out.mono ?_
    rintro e w3 ⟨rfl, hb3⟩
    have HB3 := Lib.hid (belowS_tr HB2.out hb3 HB2.out.size)
    clear hb3 hca
    go_wp2_with fail
    go_ret2
    exact ⟨by rw [HR0.out, HF.out]; rfl, HB3.out⟩
set_option maxRecDepth 100000 in
set_option maxHeartbeats 1000000 in
theorem bare_any (b : List UInt8) (w : World) : Calls Tryz.prog 36 #[.string (bstr b)] w fun e w' => e = .returned (.string (bstr (unDash b))) ∧ w' = w := by
  by_cases h : b = [45]
  · have hd : unDash b = [] := if_pos h
    rw [hd]
    subst h
    have hb1 : ((bstr [45]).toList == [45]) = true := by rw [bstr_toList]; rfl
    clear hd
    go_enter Tryz.func36, Tryz.ntmps36
    go_wp2_with fail
    go_ret
    exact ⟨rfl, rfl⟩
  · have hd : unDash b = b := if_neg h
    rw [hd]
    have hb1 : ((bstr b).toList == [45]) = false := by rw [bstr_toList, beq_eq_false_iff_ne]; exact h
    clear hd h
    go_enter Tryz.func36, Tryz.ntmps36
    go_wp2_with fail
    go_ret
    exact ⟨rfl, rfl⟩
set_option maxRecDepth 100000 in
set_option maxHeartbeats 1000000 in
theorem isWord_any (t : List UInt8) (w : World) (ht : t.length ≤ 9223372036854775807) :
    Calls Tryz.prog 35 #[.string (bstr t)] w fun e w' => e = .returned (.bool (wordB t)) ∧ w = w' := by
  have hsz : (bstr t).size = t.length := rfl
  go_enter Tryz.func35, Tryz.ntmps35
  go_wp2
  go_loop [6] (fun i => ∃ k : Nat, k ≤ t.length ∧ i = .int .i64 k ∧ Hid ((t.take k).all rowByte = true)) (fun i => t.length - (intOf i).toNat)
  case atStart => exact ⟨0, by omega, rfl, rfl⟩
  case round =>
    obtain ⟨k, hk, rfl, HT⟩ := hrel
    by_cases hlt : k < t.length
    · have hg : (bstr t)[k]'(by rw [hsz]; exact hlt) = t[k] := rfl
      by_cases h1 : t[k].toNat < 33
      · have HF : Hid (wordB t = false) := Lib.hid (by rw [wordB, all_no hlt (rowByte_no (.inl h1))]; rfl)
        have hb : (((bstr t)[k]'(by rw [hsz]; exact hlt)).toNat : Int) < 33 := by rw [hg]; omega
        clear hg h1
        go_wp2
        go_ret
        exact ⟨by rw [HF.out]; rfl, rfl⟩
      have hb : ¬ (((bstr t)[k]'(by rw [hsz]; exact hlt)).toNat : Int) < 33 := by rw [hg]; omega
      by_cases h2 : 126 < t[k].toNat
      · have HF : Hid (wordB t = false) := Lib.hid (by rw [wordB, all_no hlt (rowByte_no (.inr h2))]; rfl)
        have hb2 : (126 : Int) < (((bstr t)[k]'(by rw [hsz]; exact hlt)).toNat : Int) := by rw [hg]; omega
        clear hg h1 h2
        go_wp2
        go_ret
        exact ⟨by rw [HF.out]; rfl, rfl⟩
      · have hb2 : ¬ (126 : Int) < (((bstr t)[k]'(by rw [hsz]; exact hlt)).toNat : Int) := by rw [hg]; omega
        have HT2 := Lib.hid (all_yes HT.out hlt (rowByte_yes h1 h2))
        clear hg h1 h2
        go_wp2
        go_round
        case rel => exact ⟨k + 1, by omega, by go_num, HT2⟩
        case measure => simp [intOf]; omega
    · obtain rfl : k = t.length := by omega
      rw [List.take_length] at HT
      by_cases h1 : t = []
      · have hem : (bstr t).toList.isEmpty = true := by rw [bstr_toList, h1]; rfl
        have HF : Hid (wordB t = false) := Lib.hid (by rw [h1]; rfl)
        clear h1
        go_wp2
        go_ret
        exact ⟨by rw [HF.out]; rfl, rfl⟩
      · have hem : (bstr t).toList.isEmpty = false := by
          rw [bstr_toList]; cases hq : t with | nil => exact absurd hq h1 | cons _ _ => rfl
        have hl1 : 1 ≤ t.length := by cases hq : t with | nil => exact absurd hq h1 | cons _ _ => simp
        have HF : Hid (wordB t = true) := Lib.hid (by rw [wordB, HT.out, decide_eq_true hl1]; rfl)
        clear h1 hl1
        go_wp2
        go_ret
        exact ⟨by rw [HF.out]; rfl, rfl⟩
def kindsText : List UInt8 := [97, 108, 108, 32, 116, 101, 97, 109, 32, 104, 111, 117, 115, 101, 32, 110, 111, 110, 101]
theorem kinds_sg : sg kindsText = kindRow := by
  have h : kindsText = kAll ++ 32 :: (kTeam ++ 32 :: (kHouse ++ 32 :: kNone)) := rfl
  rw [h, sg_cons (by decide), sg_cons (by decide), sg_cons (by decide), sg_one (by decide)]
  rfl
theorem kindSplit_any (w : World) (hG : GInt w) : Calls Tryz.prog 25 #[.string ⟨#[97, 108, 108, 32, 116, 101, 97, 109, 32, 104, 111, 117, 115, 101, 32, 110, 111, 110, 101]⟩, .string ⟨#[32]⟩] w fun e w' => e = .returned (.slice (some ⟨w.heap.size, 0, none⟩) 4 4) ∧ w' = w.alloc (.cells (kindRow.map fun x => Value.string (bstr x)).toArray 9) := by
  have h := splitSp_any kindsText w hG (by decide)
  rw [kinds_sg] at h
  exact h
end Go.Proofs.YtgilcllfdgdofaaGreatDoor
