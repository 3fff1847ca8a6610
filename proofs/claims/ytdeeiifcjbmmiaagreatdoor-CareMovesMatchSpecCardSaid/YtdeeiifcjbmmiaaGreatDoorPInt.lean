/-
  internal/strconv.ParseUint, ParseInt and strconv.ParseInt at six digits of base 16; the reference's score.
-/
import Derived.Test.YtdeeiifcjbmmiaaGreatDoorScore
namespace Go.Proofs.YtdeeiifcjbmmiaaGreatDoor
open Go.RowKit
set_option linter.unusedVariables false
set_option linter.unusedSimpArgs false

theorem hexB_small {m : Int} (h : m % 16 < 10) : ((hexB m).toNat : Int) = 48 + m % 16 := by
  have h0 : 0 ≤ m % 16 := Int.emod_nonneg _ (by decide)
  unfold hexB
  obtain ⟨k, hk⟩ := Int.eq_ofNat_of_zero_le h0
  rw [hk] at h ⊢
  have hk2 : k < 10 := by omega
  rw [Int.toNat_natCast]
  have : ∀ k : Fin 10, ((([48, 49, 50, 51, 52, 53, 54, 55, 56, 57, 97, 98, 99, 100, 101, 102] : List UInt8).getD k.val 0).toNat : Int) = 48 + (k.val : Int) := by decide
  exact this ⟨k, hk2⟩
theorem hexB_big {m : Int} (h : ¬ m % 16 < 10) : ((hexB m).toNat : Int) = 87 + m % 16 := by
  have h0 : 0 ≤ m % 16 := Int.emod_nonneg _ (by decide)
  have h1 : m % 16 < 16 := Int.emod_lt_of_pos _ (by decide)
  unfold hexB
  obtain ⟨k, hk⟩ := Int.eq_ofNat_of_zero_le h0
  rw [hk] at h h1 ⊢
  have hk2 : k < 16 := by omega
  have hk3 : 10 ≤ k := by omega
  rw [Int.toNat_natCast]
  have : ∀ k : Fin 16, 10 ≤ k.val → ((([48, 49, 50, 51, 52, 53, 54, 55, 56, 57, 97, 98, 99, 100, 101, 102] : List UInt8).getD k.val 0).toNat : Int) = 87 + (k.val : Int) := by decide
  exact this ⟨k, hk2⟩ hk3
set_option maxRecDepth 100000 in
set_option maxHeartbeats 400000 in
theorem lower_any (c : Int) (w : World) (h1 : 97 ≤ c) (h2 : c ≤ 102) : Calls Tryz.prog 119 #[.int .u8 c] w fun e w' => e = .returned (.int .u8 c) ∧ w = w' := by
  have hb : bits BinOp.or IntKind.u8 c 32 = c := by
    obtain ⟨k, rfl⟩ := Int.eq_ofNat_of_zero_le (show 0 ≤ c by omega)
    have hk : k < 103 := by omega
    have hk1 : 97 ≤ k := by omega
    have : ∀ k : Fin 103, 97 ≤ k.val → bits BinOp.or IntKind.u8 (k.val : Int) 32 = (k.val : Int) := by decide
    exact this ⟨k, hk⟩ hk1
  go_enter Tryz.func119, Tryz.ntmps119
  go_wp2
  go_ret
  exact ⟨by rw [← hb]; rfl, rfl⟩
set_option maxRecDepth 100000 in
set_option maxHeartbeats 8000000 in
theorem puint_any (t : List UInt8) (w : World) : Calls Tryz.prog 107 #[.string (bstr ((digL t).take 6)), .int .i64 16, .int .i64 64] w fun e w' => e = .returned (.tuple #[.int .u64 (topN t 6), .nilIface]) ∧ BG w w' := by
  have wMax : IntKind.u64.wrap (IntKind.u64.wrap 18446744073709551616 - 1) = 18446744073709551615 := by rw [IntKind.wrap_u64, IntKind.wrap_u64]; decide
  have hq := digL_len t
  have h6l : ((digL t).take 6).length = 6 := by rw [List.length_take, hq]; rfl
  have hz6 : (bstr ((digL t).take 6)).size = 6 := h6l
  have hne : (bstr ((digL t).take 6)).toList.isEmpty = false := by
    rw [bstr_toList]
    cases h : (digL t).take 6 with
    | nil => rw [h] at h6l; cases h6l
    | cons a b => rfl
  obtain ⟨c3, w3, hcv, hr3, hb3⟩ := conv_strG (P := Tryz.prog) w 9 81 5 ((digL t).take 6) Tryz.underlying9 Tryz.underlying81 Tryz.underlying5 (by rw [h6l]; unfold maxLen; omega)
  have HR3 := Lib.hid hr3
  have HB3 := Lib.hid hb3
  rw [h6l] at hcv HR3
  clear hr3 hb3
  go_enter Tryz.func107, Tryz.ntmps107
  go_wp2_with fail
  go_loop [12, 13, 101] (fun vb vn vk => ∃ k : Nat, k ≤ 6 ∧ vb = .bool false ∧ vk = .int .i64 k ∧ vn = .int .u64 (topN t k)) (fun _ _ vk => 6 - (intOf vk).toNat)
  case atStart => exact ⟨0, by omega, rfl, rfl, by rw [topN_zero]⟩
  case round =>
    clear hcv hne
    obtain ⟨k, hk, rfl, rfl, rfl⟩ := hrel
    by_cases hlt : k < 6
    · obtain ⟨ad, u, had, _, hu, hcell⟩ := Rp.sl_at1 rfl HR3.out (k := k) (by rw [h6l]; exact hlt)
      injection had with had
      subst had
      rw [show (⟨w.heap.size, 0, none⟩ : Addr).add k = ⟨w.heap.size, k, none⟩ from by unfold Addr.add; split <;> simp_all] at hcell
      have hu : u = .int .u8 (((digL t).take 6)[k]'(by rw [h6l]; exact hlt)).toNat := by cases hu; rfl
      rw [take6_at t k hlt] at hu
      subst hu
      obtain ⟨m, hm⟩ : ∃ m, fnv t / (16 ^ (15 - k) : Nat) = m := ⟨_, rfl⟩
      have HT := Lib.hid (topN_succ t (k := k) (by omega))
      rw [hm] at hcell HT
      clear hm
      obtain ⟨r1, r2⟩ := topN_range t (k := k) (by omega)
      have r3 : 0 ≤ m % 16 ∧ m % 16 < 16 := ⟨Int.emod_nonneg _ (by decide), Int.emod_lt_of_pos _ (by decide)⟩
      obtain ⟨r3, r4⟩ := r3
      generalize topN t k = n at *
      have w1 : IntKind.u64.wrap (n * 16) = n * 16 := by rw [IntKind.wrap_u64]; omega
      by_cases hs : m % 16 < 10
      · have hc := hexB_small hs
        rw [hc] at hcell
        clear hc
        generalize m % 16 = d at *
        have w2 : IntKind.u64.wrap (n * 16 + d) = n * 16 + d := by rw [IntKind.wrap_u64]; omega
        have w3' : 48 + d - 48 = d := by omega
        have v1 : ¬ n * 16 + d < n := by omega
        have v2 : ¬ (18446744073709551615 : Int) < n * 16 + d := by omega
        go_wp2_with fail
        go_round
        case rel => exact ⟨k + 1, by omega, rfl, by go_num, by rw [HT.out]; congr 1; omega⟩
        case measure => simp [intOf]; omega
      · have hc := hexB_big hs
        rw [hc] at hcell
        clear hc
        generalize m % 16 = d at *
        have HLW : Hid (∀ w, Calls Tryz.prog 119 #[.int .u8 (87 + d)] w fun e w' => e = .returned (.int .u8 (87 + d)) ∧ w = w') := Lib.hid (fun w => lower_any _ w (by omega) (by omega))
        have w2 : IntKind.u64.wrap (n * 16 + d) = n * 16 + d := by rw [IntKind.wrap_u64]; omega
        have w3' : 87 + d - 97 + 10 = d := by omega
        have w4' : IntKind.u8.wrap (87 + d - 97) = d - 10 := by rw [IntKind.wrap_u8]; omega
        have v1 : ¬ n * 16 + d < n := by omega
        have v2 : ¬ (18446744073709551615 : Int) < n * 16 + d := by omega
        have v3 : ¬ (87 + d : Int) ≤ 57 := by omega
        have v4 : (97 : Int) ≤ 87 + d := by omega
        have v5 : (87 + d : Int) ≤ 122 := by omega
        go_wp2_with fail
        refine (HLW.out _).mono ?_
        rintro e w5 ⟨rfl, rfl⟩
        go_wp2_with fail
        refine (HLW.out _).mono ?_
        rintro e w5 ⟨rfl, rfl⟩
        go_wp2_with fail
        refine (HLW.out _).mono ?_
        rintro e w5 ⟨rfl, rfl⟩
        go_wp2_with fail
        go_round
        case rel => exact ⟨k + 1, by omega, rfl, by go_num, by rw [HT.out]; congr 1; omega⟩
        case measure => simp [intOf]; omega
    · obtain rfl : k = 6 := by omega
      go_wp2_with fail
      go_ret2
      exact ⟨rfl, HB3.out⟩
set_option maxRecDepth 100000 in
set_option maxHeartbeats 4000000 in
theorem pintI_any (t : List UInt8) (w : World) : Calls Tryz.prog 86 #[.string (bstr ((digL t).take 6)), .int .i64 16, .int .i64 64] w fun e w' => e = .returned (.tuple #[.int .i64 (topN t 6), .nilIface]) ∧ BG w w' := by
  have wMax : IntKind.u64.wrap 9223372036854775808 = 9223372036854775808 := by rw [IntKind.wrap_u64]; decide
  have hq := digL_len t
  have h6l : ((digL t).take 6).length = 6 := by rw [List.length_take, hq]; rfl
  have hz6 : (bstr ((digL t).take 6)).size = 6 := h6l
  have hne : (bstr ((digL t).take 6)).toList.isEmpty = false := by
    rw [bstr_toList]
    cases h : (digL t).take 6 with
    | nil => rw [h] at h6l; cases h6l
    | cons a b => rfl
  obtain ⟨m, hm⟩ : ∃ m, fnv t / (16 ^ 15 : Nat) = m := ⟨_, rfl⟩
  have hb0 : ∀ (h : 0 < (bstr ((digL t).take 6)).size), (bstr ((digL t).take 6))[0]'h = hexB m := fun h => by
    have h2 := take6_at t 0 (by decide) (by rw [h6l]; decide)
    rw [show 15 - 0 = 15 from rfl, hm] at h2
    exact h2
  have hge : (48 : Int) ≤ ((hexB m).toNat : Int) := by
    have h0 : 0 ≤ m % 16 := Int.emod_nonneg _ (by decide)
    by_cases hs : m % 16 < 10
    · rw [hexB_small hs]; omega
    · rw [hexB_big hs]; omega
  have h43 : (((hexB m).toNat : Int) == 43) = false := by rw [beq_eq_false_iff_ne]; omega
  have h45 : (((hexB m).toNat : Int) == 45) = false := by rw [beq_eq_false_iff_ne]; omega
  clear hm
  obtain ⟨r1, r2⟩ := topN_range t (k := 6) (by omega)
  have HP := Lib.hid (puint_any t w)
  go_enter Tryz.func86, Tryz.ntmps86
  go_wp2_with fail
  refine HP.out.mono ?_
  rintro e w1 ⟨rfl, hb⟩
  have HB := Lib.hid hb
  clear hb hb0 hge h43 h45 hne HP
  obtain ⟨n, hn⟩ : ∃ n, topN t 6 = n := ⟨_, rfl⟩
  rw [hn] at r1 r2 ⊢
  have HN := Lib.hid hn
  clear hn
  have d1 : ¬ (9223372036854775808 : Int) ≤ n := by omega
  go_wp2_with fail
  go_ret2
  exact ⟨by rw [HN.out]; rfl, HB.out⟩
set_option maxRecDepth 100000 in
set_option maxHeartbeats 4000000 in
theorem pint_any (t : List UInt8) (w : World) : Calls Tryz.prog 55 #[.string (bstr ((digL t).take 6)), .int .i64 16, .int .i64 64] w fun e w' => e = .returned (.tuple #[.int .i64 (topN t 6), .nilIface]) ∧ BG w w' := by
  have HP := Lib.hid (pintI_any t w)
  go_enter Tryz.func55, Tryz.ntmps55
  go_wp2_with fail
  refine HP.out.mono ?_
  rintro e w1 ⟨rfl, hb⟩
  have HB := Lib.hid hb
  clear hb HP
  go_wp2_with fail
  go_ret2
  exact ⟨rfl, HB.out⟩
set_option maxRecDepth 100000 in
set_option maxHeartbeats 4000000 in
theorem refScore_any (x : Site) (item : List UInt8) (w : World) (hx : x.name.length ≤ 1000) (hi : item.length ≤ 1000000) :
    Calls Tryz.prog 39 #[.agg (siteCells x).toArray, .string (bstr item)] w fun e w' => e = .returned (.int .i64 (keyS item x)) ∧ Below w.heap.size w w' := by
  obtain ⟨nm, wt, rm⟩ := x
  have hx : nm.length ≤ 1000 := hx
  have HK0 : Hid (Blk (w.alloc (.cells #[.string (bstr nm), .int .i64 wt, .int .i64 rm] 48)) w.heap.size 48 [.string (bstr nm), .int .i64 wt, .int .i64 rm]) := Lib.hid (Blk.new w _ _)
  have HB0 : Hid (Below w.heap.size w (w.alloc (.cells #[.string (bstr nm), .int .i64 wt, .int .i64 rm] 48))) := Lib.hid ((Below.refl _ _).alloc (Nat.le_refl _) _)
  have hcat := bstr_blankS nm item
  have hz1 : (bstr nm).size = nm.length := rfl
  have hz2 : (bstr item).size = item.length := rfl
  have c0 : _ = some (Value.string (bstr nm)) := HK0.out.cell 0
  obtain ⟨t, ht⟩ : ∃ t, nm ++ 32 :: item = t := ⟨_, rfl⟩
  have htl : t.length ≤ 1001001 := by rw [← ht, List.length_append, List.length_cons]; omega
  rw [ht] at hcat
  have HKS : Hid (keyS item ⟨nm, wt, rm⟩ = wrap64 (topN t 6 * wt)) := Lib.hid (by unfold keyS; rw [ht])
  clear ht
  have hq := digL_len t
  have hzd : (bstr (digL t)).size = 16 := hq
  have hex6 : (bstr (digL t)).extract 0 6 = bstr ((digL t).take 6) := by
    apply str_inj
    rw [bstr_toList]
    simp [ByteArray.toList_eq, bstr]
  show Calls Tryz.prog 39 #[.agg #[.string (bstr nm), .int .i64 wt, .int .i64 rm], .string (bstr item)] w _
  go_enter Tryz.func39, Tryz.ntmps39
  go_wp2_with fail
  refine (rdigest_any t _ (by omega)).mono ?_
  rintro e w1 ⟨rfl, hb1⟩
  have HB1 := Lib.hid (ext_trans HB0.out hb1)
  have HK1 := Lib.hid (HK0.out.same (same_below hb1) HK0.out.lt)
  clear hb1 HB0 HK0 c0 hcat hz1 hz2
  go_wp2_with fail
  refine (pint_any t w1).mono ?_
  rintro e w2 ⟨rfl, hb2⟩
  have HB2 := Lib.hid (ext_trans HB1.out hb2.1)
  have hk2 := HK1.out.same (same_below hb2.1) HK1.out.lt
  have c1 : _ = some (Value.int .i64 wt) := hk2.cell 1
  clear hb2 hk2 HB1 HK1 hex6 hzd
  go_wp2_with fail
  go_ret
  exact ⟨by rw [HKS.out]; rfl, HB2.out⟩
end Go.Proofs.YtdeeiifcjbmmiaaGreatDoor
