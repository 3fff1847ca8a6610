/-
  The checks of a right by itself, 'nearer' and 'Nearer' in the reference of chapter 10.
-/
import Derived.Test.YtdljgjlkfihjdaaGreatDoorNear
namespace Go.Proofs.YtdljgjlkfihjdaaGreatDoor
open Go.RowKit
set_option linter.unusedVariables false
set_option linter.unusedSimpArgs false

def rgPart (r : Rgt) : Int := if isPre r.pre = false then 3 else rgRest r
set_option maxHeartbeats 400000 in
theorem hwithin_any (n lo hi : Int) (w : World) : Calls Tryz.prog 73 #[.int .i64 n, .int .i64 lo, .int .i64 hi] w fun e w' => e = .returned (.bool (withinB n lo hi)) ∧ w' = w := by
  by_cases h1 : lo ≤ n
  · by_cases h2 : n ≤ hi
    · have hd : Hid (withinB n lo hi = true) := decide_eq_true ⟨h1, h2⟩
      go_enter Tryz.func73, Tryz.ntmps73
      go_wp2
      go_ret
      exact ⟨by rw [hd.out]; rfl, rfl⟩
    · have hd : Hid (withinB n lo hi = false) := decide_eq_false (fun e => h2 e.2)
      go_enter Tryz.func73, Tryz.ntmps73
      go_wp2
      go_ret
      exact ⟨by rw [hd.out]; rfl, rfl⟩
  · have hd : Hid (withinB n lo hi = false) := decide_eq_false (fun e => h1 e.1)
    go_enter Tryz.func73, Tryz.ntmps73
    go_wp2
    go_ret
    exact ⟨by rw [hd.out]; rfl, rfl⟩
set_option maxRecDepth 100000 in
set_option maxHeartbeats 400000 in
theorem hPre_any (t : List UInt8) (w : World) (ht : t.length ≤ 9223372036854775807) :
    Calls Tryz.prog 74 #[.string (bstr t)] w fun e w' => e = .returned (.bool (isPre t)) ∧ w' = w := by
  have hsz : (bstr t).size = t.length := rfl
  go_enter Tryz.func74, Tryz.ntmps74
  go_wp2
  go_loop [6] (fun i => ∃ k : Nat, k ≤ t.length ∧ i = .int .i64 k ∧ Hid ((t.take k).all rowByte = true)) (fun i => t.length - (intOf i).toNat)
  case atStart => exact ⟨0, by omega, rfl, rfl⟩
  case round =>
    obtain ⟨k, hk, rfl, HT⟩ := hrel
    by_cases hlt : k < t.length
    · have hg : (bstr t)[k]'(by rw [hsz]; exact hlt) = t[k] := rfl
      by_cases h1 : t[k].toNat < 33
      · have HF : Hid (isPre t = false) := Lib.hid (by rw [isPre, all_no hlt (rowByte_no (.inl h1))]; rfl)
        have hb : (((bstr t)[k]'(by rw [hsz]; exact hlt)).toNat : Int) < 33 := by rw [hg]; omega
        clear hg h1
        go_wp2
        go_ret
        exact ⟨by rw [HF.out]; rfl, rfl⟩
      have hb : ¬ (((bstr t)[k]'(by rw [hsz]; exact hlt)).toNat : Int) < 33 := by rw [hg]; omega
      by_cases h2 : 126 < t[k].toNat
      · have HF : Hid (isPre t = false) := Lib.hid (by rw [isPre, all_no hlt (rowByte_no (.inr h2))]; rfl)
        have hb2 : (126 : Int) < (((bstr t)[k]'(by rw [hsz]; exact hlt)).toNat : Int) := by rw [hg]; omega
        clear hg h1 h2
        go_wp2
        go_ret
        exact ⟨by rw [HF.out]; rfl, rfl⟩
      · have hb2 : ¬ (126 : Int) < (((bstr t)[k]'(by rw [hsz]; exact hlt)).toNat : Int) := by rw [hg]; omega
        have HT2 := Lib.hid (all_yes HT.out hlt (rowByte_yes h1 h2))
        clear hg h1 h2
        go_wp2
        go_round
        case rel => exact ⟨k + 1, by omega, by go_num, HT2⟩
        case measure => simp [intOf]; omega
    · obtain rfl : k = t.length := by omega
      rw [List.take_length] at HT
      by_cases h2 : (t.length : Int) ≤ 2100
      · have HF : Hid (isPre t = true) := Lib.hid (by rw [isPre, HT.out, decide_eq_true h2]; rfl)
        go_wp2
        go_ret
        exact ⟨by rw [HF.out]; rfl, rfl⟩
      · have HF : Hid (isPre t = false) := Lib.hid (by rw [isPre, decide_eq_false h2, Bool.and_false])
        go_wp2
        go_ret
        exact ⟨by rw [HF.out]; rfl, rfl⟩
set_option maxRecDepth 100000 in
set_option maxHeartbeats 1000000 in
theorem hName_any (t : List UInt8) (w : World) (ht : t.length ≤ 9223372036854775807) :
    Calls Tryz.prog 54 #[.string (bstr t)] w fun e w' => e = .returned (.bool (isNm t)) ∧ w' = w := by
  have hsz : (bstr t).size = t.length := rfl
  rcases nm_cases t with ⟨h1, rfl⟩ | ⟨h1, h2⟩ | ⟨h1, h2, c, r, rfl⟩
  · have HF := Lib.hid (isNm_1 h1)
    have h1' : ¬ (1 : Int) ≤ (([] : List UInt8).length : Int) := by simp
    clear h1
    go_enter Tryz.func54, Tryz.ntmps54
    go_wp2_with fail
    refine (hwithin_any (([] : List UInt8).length : Int) 1 40 _).mono ?_
    rintro e w1 ⟨rfl, rfl⟩
    rw [show withinB (([] : List UInt8).length : Int) 1 40 = false from by decide]
    go_wp2
    go_ret
    exact ⟨by rw [HF.out]; rfl, rfl⟩
  · have HF := Lib.hid (isNm_2 h2)
    have h1' : (1 : Int) ≤ (t.length : Int) := by omega
    have h2' : ¬ (t.length : Int) ≤ 40 := by omega
    go_enter Tryz.func54, Tryz.ntmps54
    go_wp2_with fail
    refine (hwithin_any (t.length : Int) 1 40 _).mono ?_
    rintro e w1 ⟨rfl, rfl⟩
    rw [show withinB (t.length : Int) 1 40 = false from decide_eq_false (by omega)]
    go_wp2
    go_ret
    exact ⟨by rw [HF.out]; rfl, rfl⟩
  · have hg : ∀ h, (bstr (c :: r))[0]'h = c := fun _ => rfl
    have HF0 := Lib.hid (fun h => isNm_3 (c := c) (r := r) h)
    have HF4 := Lib.hid (fun h => isNm_4 (c := c) (r := r) h1 h2 h)
    generalize hs : c :: r = t at *
    clear hs
    have h1' : (1 : Int) ≤ (t.length : Int) := by omega
    have h2' : (t.length : Int) ≤ 40 := by omega
    by_cases q1 : c.toNat < 97
    · have HF := Lib.hid (HF0.out (isLow_no (.inl q1)))
      have hb : (((bstr t)[0]'(by rw [hsz]; omega)).toNat : Int) < 97 := by rw [hg]; omega
      clear hg q1 HF0 HF4
      go_enter Tryz.func54, Tryz.ntmps54
      go_wp2_with fail
      refine (hwithin_any (t.length : Int) 1 40 _).mono ?_
      rintro e w1 ⟨rfl, rfl⟩
      rw [show withinB (t.length : Int) 1 40 = true from decide_eq_true (by omega)]
      go_wp2
      go_ret
      exact ⟨by rw [HF.out]; rfl, rfl⟩
    have hb1 : ¬ (((bstr t)[0]'(by rw [hsz]; omega)).toNat : Int) < 97 := by rw [hg]; omega
    by_cases q2 : 122 < c.toNat
    · have HF := Lib.hid (HF0.out (isLow_no (.inr q2)))
      have hb : (122 : Int) < (((bstr t)[0]'(by rw [hsz]; omega)).toNat : Int) := by rw [hg]; omega
      clear hg q1 q2 HF0 HF4
      go_enter Tryz.func54, Tryz.ntmps54
      go_wp2_with fail
      refine (hwithin_any (t.length : Int) 1 40 _).mono ?_
      rintro e w1 ⟨rfl, rfl⟩
      rw [show withinB (t.length : Int) 1 40 = true from decide_eq_true (by omega)]
      go_wp2
      go_ret
      exact ⟨by rw [HF.out]; rfl, rfl⟩
    have HF := Lib.hid (HF4.out (isLow_yes (by omega) (by omega)))
    have hb : ¬ (122 : Int) < (((bstr t)[0]'(by rw [hsz]; omega)).toNat : Int) := by rw [hg]; omega
    clear hg q1 q2 HF0 HF4
    go_enter Tryz.func54, Tryz.ntmps54
    go_wp2_with fail
    refine (hwithin_any (t.length : Int) 1 40 _).mono ?_
    rintro e w1 ⟨rfl, rfl⟩
    rw [show withinB (t.length : Int) 1 40 = true from decide_eq_true (by omega)]
    go_wp2
    clear hb hb1
    go_loop [21] (fun i => ∃ k : Nat, k ≤ t.length ∧ i = .int .i64 k ∧ Hid ((t.take k).all (nmSet.contains ·) = true)) (fun i => t.length - (intOf i).toNat)
    case atStart => exact ⟨0, by omega, rfl, rfl⟩
    case round =>
      obtain ⟨k, hk, rfl, HT⟩ := hrel
      by_cases hlt : k < t.length
      · have hg : (bstr t)[k]'(by rw [hsz]; exact hlt) = t[k] := rfl
        have HNO := Lib.hid (fun h => all_no (p := fun x => nmSet.contains x) hlt (nmSet_no h))
        have HYES := Lib.hid (fun h => all_yes (p := fun x => nmSet.contains x) HT.out hlt (nmSet_yes h))
        generalize t[k] = b at *
        obtain ⟨x, hx⟩ : ∃ x : UInt8, (bstr t)[k]'(by rw [hsz]; exact hlt) = x := ⟨_, rfl⟩
        have hxb : x = b := by rw [← hx, hg]
        subst hxb
        clear hg
        by_cases good : (97 ≤ x.toNat ∧ x.toNat ≤ 122) ∨ (48 ≤ x.toNat ∧ x.toNat ≤ 57) ∨ x.toNat = 45
        · have HT2 := Lib.hid (HYES.out good)
          clear HNO HYES
          rcases good with ⟨g1, g2⟩ | ⟨g1, g2⟩ | g1
          · have b1 : ¬ (x.toNat : Int) < 97 := by omega
            have b2 : ¬ (122 : Int) < (x.toNat : Int) := by omega
            clear g1 g2
            go_wp2
            go_round
            case rel => exact ⟨k + 1, by omega, by go_num, HT2⟩
            case measure => simp [intOf]; omega
          · have b1 : (x.toNat : Int) < 97 := by omega
            have b2 : ¬ (x.toNat : Int) < 48 := by omega
            have b3 : ¬ (57 : Int) < (x.toNat : Int) := by omega
            clear g1 g2
            go_wp2
            go_round
            case rel => exact ⟨k + 1, by omega, by go_num, HT2⟩
            case measure => simp [intOf]; omega
          · have b1 : (x.toNat : Int) < 97 := by omega
            have b2 : (x.toNat : Int) < 48 := by omega
            have b3 : ((x.toNat : Int) != 45) = false := by simp [g1]
            clear g1
            go_wp2
            go_round
            case rel => exact ⟨k + 1, by omega, by go_num, HT2⟩
            case measure => simp [intOf]; omega
        · have HN := Lib.hid (HNO.out good)
          have b3 : ((x.toNat : Int) != 45) = true := by rw [bne_iff_ne]; omega
          have key : ((x.toNat : Int) < 97 ∧ (x.toNat : Int) < 48) ∨ ((x.toNat : Int) < 97 ∧ ¬ (x.toNat : Int) < 48 ∧ (57 : Int) < (x.toNat : Int)) ∨ (¬ (x.toNat : Int) < 97 ∧ (122 : Int) < (x.toNat : Int) ∧ ¬ (x.toNat : Int) < 48 ∧ (57 : Int) < (x.toNat : Int)) := by omega
          clear good HNO HYES
          rcases key with ⟨d1, d2⟩ | ⟨d1, d2, d3⟩ | ⟨d1, d2, d3, d4⟩
          all_goals
            go_wp2
            go_ret
            exact ⟨by rw [HF.out, HN.out]; rfl, rfl⟩
      · obtain rfl : k = t.length := by omega
        rw [List.take_length] at HT
        go_wp2
        go_ret
        exact ⟨by rw [HF.out, HT.out]; rfl, rfl⟩
set_option maxRecDepth 100000 in
set_option maxHeartbeats 2000000 in
theorem checkPart_any (r : Rgt) (w : World) (hp : r.pre.length ≤ 9223372036854775807) (hz : r.team.length ≤ 9223372036854775807) :
    Calls Tryz.prog 58 #[.agg #[.string (bstr r.id), .string (bstr r.pre), .int .i64 r.frm, .int .i64 r.to, .int .i64 r.st, .int .i64 r.en, .int .i64 r.made, .int .i64 r.kind, .string (bstr r.team)]] w fun e w' => e = .returned (.int .i64 (rgPart r)) ∧ Below w.heap.size w w' := by
  have HB := Lib.hid ((Below.refl w.heap.size w).alloc (Nat.le_refl _) (.cells #[.string (bstr r.id), .string (bstr r.pre), .int .i64 r.frm, .int .i64 r.to, .int .i64 r.st, .int .i64 r.en, .int .i64 r.made, .int .i64 r.kind, .string (bstr r.team)] 38))
  have HK : Hid (Blk (w.alloc (.cells #[.string (bstr r.id), .string (bstr r.pre), .int .i64 r.frm, .int .i64 r.to, .int .i64 r.st, .int .i64 r.en, .int .i64 r.made, .int .i64 r.kind, .string (bstr r.team)] 38)) w.heap.size 38 (rgtCells r)) := Lib.hid (Blk.new w 38 (rgtCells r))
  have m0 : (w.alloc (.cells #[.string (bstr r.id), .string (bstr r.pre), .int .i64 r.frm, .int .i64 r.to, .int .i64 r.st, .int .i64 r.en, .int .i64 r.made, .int .i64 r.kind, .string (bstr r.team)] 38)).cell? ⟨w.heap.size, 0, none⟩ = some (.string (bstr r.id)) := HK.out.cell 0
  have m1 : (w.alloc (.cells #[.string (bstr r.id), .string (bstr r.pre), .int .i64 r.frm, .int .i64 r.to, .int .i64 r.st, .int .i64 r.en, .int .i64 r.made, .int .i64 r.kind, .string (bstr r.team)] 38)).cell? ⟨w.heap.size, 1, none⟩ = some (.string (bstr r.pre)) := HK.out.cell 1
  have m2 : (w.alloc (.cells #[.string (bstr r.id), .string (bstr r.pre), .int .i64 r.frm, .int .i64 r.to, .int .i64 r.st, .int .i64 r.en, .int .i64 r.made, .int .i64 r.kind, .string (bstr r.team)] 38)).cell? ⟨w.heap.size, 2, none⟩ = some (.int .i64 r.frm) := HK.out.cell 2
  have m3 : (w.alloc (.cells #[.string (bstr r.id), .string (bstr r.pre), .int .i64 r.frm, .int .i64 r.to, .int .i64 r.st, .int .i64 r.en, .int .i64 r.made, .int .i64 r.kind, .string (bstr r.team)] 38)).cell? ⟨w.heap.size, 3, none⟩ = some (.int .i64 r.to) := HK.out.cell 3
  have m4 : (w.alloc (.cells #[.string (bstr r.id), .string (bstr r.pre), .int .i64 r.frm, .int .i64 r.to, .int .i64 r.st, .int .i64 r.en, .int .i64 r.made, .int .i64 r.kind, .string (bstr r.team)] 38)).cell? ⟨w.heap.size, 4, none⟩ = some (.int .i64 r.st) := HK.out.cell 4
  have m5 : (w.alloc (.cells #[.string (bstr r.id), .string (bstr r.pre), .int .i64 r.frm, .int .i64 r.to, .int .i64 r.st, .int .i64 r.en, .int .i64 r.made, .int .i64 r.kind, .string (bstr r.team)] 38)).cell? ⟨w.heap.size, 5, none⟩ = some (.int .i64 r.en) := HK.out.cell 5
  have m6 : (w.alloc (.cells #[.string (bstr r.id), .string (bstr r.pre), .int .i64 r.frm, .int .i64 r.to, .int .i64 r.st, .int .i64 r.en, .int .i64 r.made, .int .i64 r.kind, .string (bstr r.team)] 38)).cell? ⟨w.heap.size, 6, none⟩ = some (.int .i64 r.made) := HK.out.cell 6
  have m7 : (w.alloc (.cells #[.string (bstr r.id), .string (bstr r.pre), .int .i64 r.frm, .int .i64 r.to, .int .i64 r.st, .int .i64 r.en, .int .i64 r.made, .int .i64 r.kind, .string (bstr r.team)] 38)).cell? ⟨w.heap.size, 7, none⟩ = some (.int .i64 r.kind) := HK.out.cell 7
  have m8 : (w.alloc (.cells #[.string (bstr r.id), .string (bstr r.pre), .int .i64 r.frm, .int .i64 r.to, .int .i64 r.st, .int .i64 r.en, .int .i64 r.made, .int .i64 r.kind, .string (bstr r.team)] 38)).cell? ⟨w.heap.size, 8, none⟩ = some (.string (bstr r.team)) := HK.out.cell 8
  go_enter Tryz.func58, Tryz.ntmps58
  go_wp2_with fail
  generalize w.alloc (.cells #[.string (bstr r.id), .string (bstr r.pre), .int .i64 r.frm, .int .i64 r.to, .int .i64 r.st, .int .i64 r.en, .int .i64 r.made, .int .i64 r.kind, .string (bstr r.team)] 38) = wA at *
  refine (hPre_any r.pre _ hp).mono ?_
  rintro e w1 ⟨rfl, rfl⟩
  cases q0 : isPre r.pre with
  | false =>
    have HF : Hid (rgPart r = 3) := Lib.hid (if_pos q0)
    clear q0
    go_wp2_with fail
    go_ret
    exact ⟨by rw [HF.out]; rfl, HB.out⟩
  | true =>
  have HRP : Hid (rgPart r = rgRest r) := Lib.hid (if_neg (by rw [q0]; decide))
  clear q0
  go_wp2_with fail
  refine (hwithin_any r.frm 0 253402300799 _).mono ?_
  rintro e w1 ⟨rfl, rfl⟩
  cases q1 : withinB r.frm 0 253402300799 with
  | false =>
    have HF : Hid (rgPart r = 1) := Lib.hid (HRP.out.trans (rg_range (.inl q1)))
    clear q1
    go_wp2_with fail
    go_ret
    exact ⟨by rw [HF.out]; rfl, HB.out⟩
  | true =>
  go_wp2_with fail
  refine (hwithin_any r.st 0 253402300799 _).mono ?_
  rintro e w1 ⟨rfl, rfl⟩
  cases q2 : withinB r.st 0 253402300799 with
  | false =>
    have HF : Hid (rgPart r = 1) := Lib.hid (HRP.out.trans (rg_range (.inr (.inl q2))))
    clear q1 q2
    go_wp2_with fail
    go_ret
    exact ⟨by rw [HF.out]; rfl, HB.out⟩
  | true =>
  go_wp2_with fail
  refine (hwithin_any r.made 0 253402300799 _).mono ?_
  rintro e w1 ⟨rfl, rfl⟩
  cases q3 : withinB r.made 0 253402300799 with
  | false =>
    have HF : Hid (rgPart r = 1) := Lib.hid (HRP.out.trans (rg_range (.inr (.inr (.inl q3)))))
    clear q1 q2 q3
    go_wp2_with fail
    go_ret
    exact ⟨by rw [HF.out]; rfl, HB.out⟩
  | true =>
  go_wp2_with fail
  refine (hwithin_any r.to 0 253402300800 _).mono ?_
  rintro e w1 ⟨rfl, rfl⟩
  cases q4 : withinB r.to 0 253402300800 with
  | false =>
    have HF : Hid (rgPart r = 1) := Lib.hid (HRP.out.trans (rg_range (.inr (.inr (.inr (.inl q4))))))
    clear q1 q2 q3 q4
    go_wp2_with fail
    go_ret
    exact ⟨by rw [HF.out]; rfl, HB.out⟩
  | true =>
  go_wp2_with fail
  refine (hwithin_any r.en 0 253402300800 _).mono ?_
  rintro e w1 ⟨rfl, rfl⟩
  cases q5 : withinB r.en 0 253402300800 with
  | false =>
    have HF : Hid (rgPart r = 1) := Lib.hid (HRP.out.trans (rg_range (.inr (.inr (.inr (.inr (q5)))))))
    clear q1 q2 q3 q4 q5
    go_wp2_with fail
    go_ret
    exact ⟨by rw [HF.out]; rfl, HB.out⟩
  | true =>
  have HR := Lib.hid (rg_range_ok q1 q2 q3 q4 q5)
  clear q1 q2 q3 q4 q5
  by_cases h1 : r.to ≤ r.frm
  · have HF : Hid (rgPart r = 8) := Lib.hid (HRP.out.trans (by rw [rgRest, if_neg (by rw [HR.out]; decide), if_pos (.inl h1)]))
    go_wp2_with fail
    go_ret
    exact ⟨by rw [HF.out]; rfl, HB.out⟩
  by_cases h2 : r.en ≤ r.st
  · have HF : Hid (rgPart r = 8) := Lib.hid (HRP.out.trans (by rw [rgRest, if_neg (by rw [HR.out]; decide), if_pos (.inr h2)]))
    go_wp2_with fail
    go_ret
    exact ⟨by rw [HF.out]; rfl, HB.out⟩
  have HO : Hid (¬ (r.to ≤ r.frm ∨ r.en ≤ r.st)) := Lib.hid (fun e => e.elim h1 h2)
  go_wp2_with fail
  refine (hwithin_any r.kind 1 4 _).mono ?_
  rintro e w1 ⟨rfl, rfl⟩
  cases q6 : withinB r.kind 1 4 with
  | false =>
    have HF : Hid (rgPart r = 4) := Lib.hid (HRP.out.trans (by rw [rgRest, if_neg (by rw [HR.out]; decide), if_neg HO.out, if_pos q6]))
    clear q6
    go_wp2_with fail
    go_ret
    exact ⟨by rw [HF.out]; rfl, HB.out⟩
  | true =>
  have HRR : Hid (rgPart r = if (r.team = [] ∧ r.kind = 2) ∨ (r.team ≠ [] ∧ (r.kind = 1 ∨ r.kind = 4)) then 3 else if r.team ≠ [] ∧ isNm r.team = false then 5 else 0) := Lib.hid (HRP.out.trans (by rw [rgRest, if_neg (by rw [HR.out]; decide), if_neg HO.out, if_neg (by rw [q6]; decide)]))
  clear q6 h1 h2
  by_cases ht : r.team = []
  · have he : (bstr r.team).toList.isEmpty = true := by rw [ht, bstr_toList]; rfl
    by_cases h3 : r.kind = 2
    · have b3 : (r.kind == 2) = true := beq_iff_eq.2 h3
      have HF : Hid (rgPart r = 3) := Lib.hid (HRR.out.trans (if_pos (.inl ⟨ht, h3⟩)))
      clear h3 ht
      go_wp2_with fail
      go_ret
      exact ⟨by rw [HF.out]; rfl, HB.out⟩
    · have b3 : (r.kind == 2) = false := beq_eq_false_iff_ne.2 h3
      have HF : Hid (rgPart r = 0) := Lib.hid (HRR.out.trans (by rw [if_neg (by rintro (e | e); exact h3 e.2; exact e.1 ht), if_neg (fun e => e.1 ht)]))
      clear h3 ht
      go_wp2_with fail
      go_ret
      exact ⟨by rw [HF.out]; rfl, HB.out⟩
  have he : (bstr r.team).toList.isEmpty = false := by
    rw [bstr_toList]; cases hq : r.team with | nil => exact absurd hq ht | cons _ _ => rfl
  by_cases h1 : r.kind = 1
  · have b1 : (r.kind == 1) = true := beq_iff_eq.2 h1
    have HF : Hid (rgPart r = 3) := Lib.hid (HRR.out.trans (if_pos (.inr ⟨ht, .inl h1⟩)))
    clear h1 ht
    go_wp2_with fail
    go_ret
    exact ⟨by rw [HF.out]; rfl, HB.out⟩
  have b1 : (r.kind == 1) = false := beq_eq_false_iff_ne.2 h1
  by_cases h4 : r.kind = 4
  · have b4 : (r.kind == 4) = true := beq_iff_eq.2 h4
    have HF : Hid (rgPart r = 3) := Lib.hid (HRR.out.trans (if_pos (.inr ⟨ht, .inr h4⟩)))
    clear h1 h4 ht
    go_wp2_with fail
    go_ret
    exact ⟨by rw [HF.out]; rfl, HB.out⟩
  have b4 : (r.kind == 4) = false := beq_eq_false_iff_ne.2 h4
  have HR5 : Hid (rgPart r = if isNm r.team = false then 5 else 0) := Lib.hid (HRR.out.trans (by
    rw [if_neg (by rintro (e | e); exact ht e.1; exact e.2.elim h1 h4)]
    by_cases hn : isNm r.team = false
    · rw [if_pos ⟨ht, hn⟩, if_pos hn]
    · rw [if_neg (fun e => hn e.2), if_neg hn]))
  clear h1 h4 ht HRR
  go_wp2_with fail
  refine (hName_any r.team _ hz).mono ?_
  rintro e w2 ⟨rfl, rfl⟩
  cases hn : isNm r.team with
  | false =>
    have HF : Hid (rgPart r = 5) := Lib.hid (HR5.out.trans (if_pos hn))
    clear hn
    go_wp2_with fail
    go_ret
    exact ⟨by rw [HF.out]; rfl, HB.out⟩
  | true =>
    have HF : Hid (rgPart r = 0) := Lib.hid (HR5.out.trans (if_neg (by rw [hn]; decide)))
    clear hn
    go_wp2_with fail
    go_ret
    exact ⟨by rw [HF.out]; rfl, HB.out⟩
set_option maxRecDepth 100000 in
set_option maxHeartbeats 400000 in
theorem hnone1_any (r : Rgt) (w : World) :
    Calls Tryz.prog 75 #[.agg #[.string (bstr r.id), .string (bstr r.pre), .int .i64 r.frm, .int .i64 r.to, .int .i64 r.st, .int .i64 r.en, .int .i64 r.made, .int .i64 r.kind, .string (bstr r.team)]] w fun e w' => e = .returned (.int .i64 (none1 r)) ∧ Below w.heap.size w w' := by
  have HB := Lib.hid ((Below.refl w.heap.size w).alloc (Nat.le_refl _) (.cells #[.string (bstr r.id), .string (bstr r.pre), .int .i64 r.frm, .int .i64 r.to, .int .i64 r.st, .int .i64 r.en, .int .i64 r.made, .int .i64 r.kind, .string (bstr r.team)] 38))
  have hk := Blk.new w 38 (rgtCells r)
  have m7 : (w.alloc (.cells #[.string (bstr r.id), .string (bstr r.pre), .int .i64 r.frm, .int .i64 r.to, .int .i64 r.st, .int .i64 r.en, .int .i64 r.made, .int .i64 r.kind, .string (bstr r.team)] 38)).cell? ⟨w.heap.size, 7, none⟩ = some (.int .i64 r.kind) := hk.cell 7
  clear hk
  by_cases h : r.kind = 4
  · have HF : Hid (none1 r = 1) := Lib.hid (if_pos h)
    have hb : (r.kind == 4) = true := beq_iff_eq.2 h
    clear h
    go_enter Tryz.func75, Tryz.ntmps75
    go_wp2
    go_ret
    exact ⟨by rw [HF.out]; rfl, HB.out⟩
  · have HF : Hid (none1 r = 0) := Lib.hid (if_neg h)
    have hb : (r.kind == 4) = false := beq_eq_false_iff_ne.2 h
    clear h
    go_enter Tryz.func75, Tryz.ntmps75
    go_wp2
    go_ret
    exact ⟨by rw [HF.out]; rfl, HB.out⟩
end Go.Proofs.YtdljgjlkfihjdaaGreatDoor
