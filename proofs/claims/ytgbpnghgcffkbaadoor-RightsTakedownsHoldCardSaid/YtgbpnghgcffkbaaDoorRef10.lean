/-
  The checks of a right by itself, 'nearer' and 'Nearer' in the reference of chapter 10.
-/
import Derived.Test.YtgbpnghgcffkbaaDoorNear
namespace Go.Proofs.YtgbpnghgcffkbaaDoor
open Go.RowKit
set_option linter.unusedVariables false
set_option linter.unusedSimpArgs false

def rgPart (r : Rgt) : Int := if isPre r.pre = false then 3 else rgRest r
set_option maxHeartbeats 400000 in
theorem hwithin_any (n lo hi : Int) (w : World) : Calls Tryd.prog 27 #[.int .i64 n, .int .i64 lo, .int .i64 hi] w fun e w' => e = .returned (.bool (withinB n lo hi)) ∧ w' = w := by
  by_cases h1 : lo ≤ n
  · by_cases h2 : n ≤ hi
    · have hd : Hid (withinB n lo hi = true) := decide_eq_true ⟨h1, h2⟩
      go_enter Tryd.func27, Tryd.ntmps27
      go_wp2
      go_ret
      exact ⟨by rw [hd.out]; rfl, rfl⟩
    · have hd : Hid (withinB n lo hi = false) := decide_eq_false (fun e => h2 e.2)
      go_enter Tryd.func27, Tryd.ntmps27
      go_wp2
      go_ret
      exact ⟨by rw [hd.out]; rfl, rfl⟩
  · have hd : Hid (withinB n lo hi = false) := decide_eq_false (fun e => h1 e.1)
    go_enter Tryd.func27, Tryd.ntmps27
    go_wp2
    go_ret
    exact ⟨by rw [hd.out]; rfl, rfl⟩
set_option maxRecDepth 100000 in
set_option maxHeartbeats 400000 in
theorem hPre_any (t : List UInt8) (w : World) (ht : t.length ≤ 9223372036854775807) :
    Calls Tryd.prog 28 #[.string (bstr t)] w fun e w' => e = .returned (.bool (isPre t)) ∧ w' = w := by
  have hsz : (bstr t).size = t.length := rfl
  go_enter Tryd.func28, Tryd.ntmps28
  go_wp2
  go_loop [6] (fun i => ∃ k : Nat, k ≤ t.length ∧ i = .int .i64 k ∧ Hid ((t.take k).all rowByte = true)) (fun i => t.length - (intOf i).toNat)
  case atStart => exact ⟨0, by omega, rfl, rfl⟩
  case round =>
    obtain ⟨k, hk, rfl, HT⟩ := hrel
    by_cases hlt : k < t.length
    · have hg : (bstr t)[k]'(by rw [hsz]; exact hlt) = t[k] := rfl
      by_cases h1 : t[k].toNat < 33
      · have HF : Hid (isPre t = false) := Lib.hid (by rw [isPre, all_no hlt (rowByte_no (.inl h1))]; rfl)
        have hb : (((bstr t)[k]'(by rw [hsz]; exact hlt)).toNat : Int) < 33 := by rw [hg]; omega
        clear hg h1
        go_wp2
        go_ret
        exact ⟨by rw [HF.out]; rfl, rfl⟩
      have hb : ¬ (((bstr t)[k]'(by rw [hsz]; exact hlt)).toNat : Int) < 33 := by rw [hg]; omega
      by_cases h2 : 126 < t[k].toNat
      · have HF : Hid (isPre t = false) := Lib.hid (by rw [isPre, all_no hlt (rowByte_no (.inr h2))]; rfl)
        have hb2 : (126 : Int) < (((bstr t)[k]'(by rw [hsz]; exact hlt)).toNat : Int) := by rw [hg]; omega
        clear hg h1 h2
        go_wp2
        go_ret
        exact ⟨by rw [HF.out]; rfl, rfl⟩
      · have hb2 : ¬ (126 : Int) < (((bstr t)[k]'(by rw [hsz]; exact hlt)).toNat : Int) := by rw [hg]; omega
        have HT2 := Lib.hid (all_yes HT.out hlt (rowByte_yes h1 h2))
        clear hg h1 h2
        go_wp2
        go_round
        case rel => exact ⟨k + 1, by omega, by go_num, HT2⟩
        case measure => simp [intOf]; omega
    · obtain rfl : k = t.length := by omega
      rw [List.take_length] at HT
      by_cases h2 : (t.length : Int) ≤ 2100
      · have HF : Hid (isPre t = true) := Lib.hid (by rw [isPre, HT.out, decide_eq_true h2]; rfl)
        go_wp2
        go_ret
        exact ⟨by rw [HF.out]; rfl, rfl⟩
      · have HF : Hid (isPre t = false) := Lib.hid (by rw [isPre, decide_eq_false h2, Bool.and_false])
        go_wp2
        go_ret
        exact ⟨by rw [HF.out]; rfl, rfl⟩
set_option maxRecDepth 100000 in
set_option maxHeartbeats 1000000 in
theorem hName_any (t : List UInt8) (w : World) (ht : t.length ≤ 9223372036854775807) :
    Calls Tryd.prog 25 #[.string (bstr t)] w fun e w' => e = .returned (.bool (isNm t)) ∧ w' = w := by
  have hsz : (bstr t).size = t.length := rfl
  rcases nm_cases t with ⟨h1, rfl⟩ | ⟨h1, h2⟩ | ⟨h1, h2, c, r, rfl⟩
  · have HF := Lib.hid (isNm_1 h1)
    have h1' : ¬ (1 : Int) ≤ (([] : List UInt8).length : Int) := by simp
    clear h1
    go_enter Tryd.func25, Tryd.ntmps25
    go_wp2_with fail
    refine (hwithin_any (([] : List UInt8).length : Int) 1 40 _).mono ?_
    rintro e w1 ⟨rfl, rfl⟩
    rw [show withinB (([] : List UInt8).length : Int) 1 40 = false from by decide]
    go_wp2
    go_ret
    exact ⟨by rw [HF.out]; rfl, rfl⟩
  · have HF := Lib.hid (isNm_2 h2)
    have h1' : (1 : Int) ≤ (t.length : Int) := by omega
    have h2' : ¬ (t.length : Int) ≤ 40 := by omega
    go_enter Tryd.func25, Tryd.ntmps25
    go_wp2_with fail
    refine (hwithin_any (t.length : Int) 1 40 _).mono ?_
    rintro e w1 ⟨rfl, rfl⟩
    rw [show withinB (t.length : Int) 1 40 = false from decide_eq_false (by omega)]
    go_wp2
    go_ret
    exact ⟨by rw [HF.out]; rfl, rfl⟩
  · have hg : ∀ h, (bstr (c :: r))[0]'h = c := fun _ => rfl
    have HF0 := Lib.hid (fun h => isNm_3 (c := c) (r := r) h)
    have HF4 := Lib.hid (fun h => isNm_4 (c := c) (r := r) h1 h2 h)
    generalize hs : c :: r = t at *
    clear hs
    have h1' : (1 : Int) ≤ (t.length : Int) := by omega
    have h2' : (t.length : Int) ≤ 40 := by omega
    by_cases q1 : c.toNat < 97
    · have HF := Lib.hid (HF0.out (isLow_no (.inl q1)))
      have hb : (((bstr t)[0]'(by rw [hsz]; omega)).toNat : Int) < 97 := by rw [hg]; omega
      clear hg q1 HF0 HF4
      go_enter Tryd.func25, Tryd.ntmps25
      go_wp2_with fail
      refine (hwithin_any (t.length : Int) 1 40 _).mono ?_
      rintro e w1 ⟨rfl, rfl⟩
      rw [show withinB (t.length : Int) 1 40 = true from decide_eq_true (by omega)]
      go_wp2
      go_ret
      exact ⟨by rw [HF.out]; rfl, rfl⟩
    have hb1 : ¬ (((bstr t)[0]'(by rw [hsz]; omega)).toNat : Int) < 97 := by rw [hg]; omega
    by_cases q2 : 122 < c.toNat
    · have HF := Lib.hid (HF0.out (isLow_no (.inr q2)))
      have hb : (122 : Int) < (((bstr t)[0]'(by rw [hsz]; omega)).toNat : Int) := by rw [hg]; omega
      clear hg q1 q2 HF0 HF4
      go_enter Tryd.func25, Tryd.ntmps25
      go_wp2_with fail
      refine (hwithin_any (t.length : Int) 1 40 _).mono ?_
      rintro e w1 ⟨rfl, rfl⟩
      rw [show withinB (t.length : Int) 1 40 = true from decide_eq_true (by omega)]
      go_wp2
      go_ret
      exact ⟨by rw [HF.out]; rfl, rfl⟩
    have HF := Lib.hid (HF4.out (isLow_yes (by omega) (by omega)))
    have hb : ¬ (122 : Int) < (((bstr t)[0]'(by rw [hsz]; omega)).toNat : Int) := by rw [hg]; omega
    clear hg q1 q2 HF0 HF4
    go_enter Tryd.func25, Tryd.ntmps25
    go_wp2_with fail
    refine (hwithin_any (t.length : Int) 1 40 _).mono ?_
    rintro e w1 ⟨rfl, rfl⟩
    rw [show withinB (t.length : Int) 1 40 = true from decide_eq_true (by omega)]
    go_wp2
    clear hb hb1
    go_loop [21] (fun i => ∃ k : Nat, k ≤ t.length ∧ i = .int .i64 k ∧ Hid ((t.take k).all (nmSet.contains ·) = true)) (fun i => t.length - (intOf i).toNat)
    case atStart => exact ⟨0, by omega, rfl, rfl⟩
    case round =>
      obtain ⟨k, hk, rfl, HT⟩ := hrel
      by_cases hlt : k < t.length
      · have hg : (bstr t)[k]'(by rw [hsz]; exact hlt) = t[k] := rfl
        have HNO := Lib.hid (fun h => all_no (p := fun x => nmSet.contains x) hlt (nmSet_no h))
        have HYES := Lib.hid (fun h => all_yes (p := fun x => nmSet.contains x) HT.out hlt (nmSet_yes h))
        generalize t[k] = b at *
        obtain ⟨x, hx⟩ : ∃ x : UInt8, (bstr t)[k]'(by rw [hsz]; exact hlt) = x := ⟨_, rfl⟩
        have hxb : x = b := by rw [← hx, hg]
        subst hxb
        clear hg
        by_cases good : (97 ≤ x.toNat ∧ x.toNat ≤ 122) ∨ (48 ≤ x.toNat ∧ x.toNat ≤ 57) ∨ x.toNat = 45
        · have HT2 := Lib.hid (HYES.out good)
          clear HNO HYES
          rcases good with ⟨g1, g2⟩ | ⟨g1, g2⟩ | g1
          · have b1 : ¬ (x.toNat : Int) < 97 := by omega
            have b2 : ¬ (122 : Int) < (x.toNat : Int) := by omega
            clear g1 g2
            go_wp2
            go_round
            case rel => exact ⟨k + 1, by omega, by go_num, HT2⟩
            case measure => simp [intOf]; omega
          · have b1 : (x.toNat : Int) < 97 := by omega
            have b2 : ¬ (x.toNat : Int) < 48 := by omega
            have b3 : ¬ (57 : Int) < (x.toNat : Int) := by omega
            clear g1 g2
            go_wp2
            go_round
            case rel => exact ⟨k + 1, by omega, by go_num, HT2⟩
            case measure => simp [intOf]; omega
          · have b1 : (x.toNat : Int) < 97 := by omega
            have b2 : (x.toNat : Int) < 48 := by omega
            have b3 : ((x.toNat : Int) != 45) = false := by simp [g1]
            clear g1
            go_wp2
            go_round
            case rel => exact ⟨k + 1, by omega, by go_num, HT2⟩
            case measure => simp [intOf]; omega
        · have HN := Lib.hid (HNO.out good)
          have b3 : ((x.toNat : Int) != 45) = true := by rw [bne_iff_ne]; omega
          have key : ((x.toNat : Int) < 97 ∧ (x.toNat : Int) < 48) ∨ ((x.toNat : Int) < 97 ∧ ¬ (x.toNat : Int) < 48 ∧ (57 : Int) < (x.toNat : Int)) ∨ (¬ (x.toNat : Int) < 97 ∧ (122 : Int) < (x.toNat : Int) ∧ ¬ (x.toNat : Int) < 48 ∧ (57 : Int) < (x.toNat : Int)) := by omega
          clear good HNO HYES
          rcases key with ⟨d1, d2⟩ | ⟨d1, d2, d3⟩ | ⟨d1, d2, d3, d4⟩
          all_goals
            go_wp2
            go_ret
            exact ⟨by rw [HF.out, HN.out]; rfl, rfl⟩
      · obtain rfl : k = t.length := by omega
        rw [List.take_length] at HT
        go_wp2
        go_ret
        exact ⟨by rw [HF.out, HT.out]; rfl, rfl⟩
end Go.Proofs.YtgbpnghgcffkbaaDoor
