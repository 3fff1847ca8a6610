/-
  ephemera/care.score walked.
-/
import Derived.Test.YtdeeiifcjbmmiaaDoorPlacP
namespace Go.Proofs.YtdeeiifcjbmmiaaDoor
open Go.RowKit
set_option linter.unusedVariables false
set_option linter.unusedSimpArgs false

set_option maxRecDepth 100000 in
set_option maxHeartbeats 400000 in
theorem indexByteS_any (s : ByteArray) (c : Int) (w : World) :
    Calls Tryd.prog 46 #[.string s, .int .u8 c] w fun e w' => e = .returned (.int .i64 (Lib.indexByte s.data.toList c.toNat.toUInt8)) ∧ w = w' := by
  go_enter Tryd.func46, Tryd.ntmps46
  go_wp2
  rw [run_callFunc_extern Tryd.func82 (by kernel_rfl) (by kernel_rfl) (by kernel_rfl) (e := Extern.BytealgIndexByte.indexByte) (by kernel_rfl), Lib.run_indexByteString]
  simp only [Result.andThen]
  rw [Oper.upon_value]
  go_wp2
  go_ret
  exact ⟨rfl, rfl⟩
theorem bstr_blankS (a b : List UInt8) : bstr a ++ (⟨#[32]⟩ : ByteArray) ++ bstr b = bstr (a ++ 32 :: b) := by
  apply str_inj
  rw [bstr_toList]
  simp [ByteArray.toList_eq]
  rfl
theorem take6_at (t : List UInt8) (k : Nat) (hk : k < 6) (h : k < ((digL t).take 6).length) : ((digL t).take 6)[k] = hexB (fnv t / (16 ^ (15 - k) : Nat)) := by
  rw [List.getElem_take]
  exact digL_at t k (by omega) _
theorem idx_digit (m : Int) : Lib.indexByte (ByteArray.mk #[48, 49, 50, 51, 52, 53, 54, 55, 56, 57, 97, 98, 99, 100, 101, 102]).data.toList (((hexB m).toNat : Int).toNat.toUInt8) = m % 16 := by
  have h : (((hexB m).toNat : Int).toNat.toUInt8) = hexB m := by rw [Int.toNat_natCast]; simp
  rw [h]
  exact hexB_idx m
set_option maxRecDepth 100000 in
set_option maxHeartbeats 4000000 in
theorem score_any (x : Site) (item : List UInt8) (w : World) (hx : x.name.length ≤ 1000) (hi : item.length ≤ 1000000) :
    Calls Tryd.prog 32 #[.agg (siteCells x).toArray, .string (bstr item)] w fun e w' => e = .returned (.int .i64 (keyS item x)) ∧ BG w w' := by
  obtain ⟨nm, wt, rm⟩ := x
  have hx : nm.length ≤ 1000 := hx
  have HK0 : Hid (Blk (w.alloc (.cells #[.string (bstr nm), .int .i64 wt, .int .i64 rm] 39)) w.heap.size 39 [.string (bstr nm), .int .i64 wt, .int .i64 rm]) := Lib.hid (Blk.new w _ _)
  have HB0 : Hid (BG w (w.alloc (.cells #[.string (bstr nm), .int .i64 wt, .int .i64 rm] 39))) := Lib.hid ((BG.refl w).alloc _)
  have hcat := bstr_blankS nm item
  have hz1 : (bstr nm).size = nm.length := rfl
  have hz2 : (bstr item).size = item.length := rfl
  have c0 : _ = some (Value.string (bstr nm)) := HK0.out.cell 0
  obtain ⟨t, ht⟩ : ∃ t, nm ++ 32 :: item = t := ⟨_, rfl⟩
  have htl : t.length ≤ 1001001 := by rw [← ht, List.length_append, List.length_cons]; omega
  rw [ht] at hcat
  have HKS : Hid (keyS item ⟨nm, wt, rm⟩ = wrap64 (topN t 6 * wt)) := Lib.hid (by unfold keyS; rw [ht])
  clear ht
  have hq := digL_len t
  have hzd : (bstr (digL t)).size = 16 := hq
  have hex6 : (bstr (digL t)).extract 0 6 = bstr ((digL t).take 6) := by
    apply str_inj
    rw [bstr_toList]
    simp [ByteArray.toList_eq, bstr]
  have h6l : ((digL t).take 6).length = 6 := by rw [List.length_take, hq]; rfl
  show Calls Tryd.prog 32 #[.agg #[.string (bstr nm), .int .i64 wt, .int .i64 rm], .string (bstr item)] w _
  go_enter Tryd.func32, Tryd.ntmps32
  go_wp2_with fail
  refine (cdigestG_any t _ (by omega)).mono ?_
  rintro e w1 ⟨rfl, hb1⟩
  have HB1 := Lib.hid (HB0.out.trans hb1)
  have HK1 := Lib.hid (HK0.out.same (same_below hb1.1) HK0.out.lt)
  clear hb1 HB0 HK0 c0 hcat hz1 hz2
  obtain ⟨c3, w3, hcv, hr3, hb3⟩ := conv_strG (P := Tryd.prog) w1 9 76 5 ((digL t).take 6) Tryd.underlying9 Tryd.underlying76 Tryd.underlying5 (by rw [h6l]; unfold maxLen; omega)
  have HR3 := Lib.hid hr3
  have HB3 := Lib.hid (HB1.out.trans hb3)
  have HK3 := Lib.hid (HK1.out.same (same_below hb3.1) HK1.out.lt)
  rw [h6l] at hcv HR3
  clear hr3 hb3 HB1 HK1
  go_wp2_with fail
  clear hcv hex6 hzd
  go_loop [5, 17] (fun vn vk => ∃ k : Nat, k ≤ 6 ∧ vk = .int .i64 k ∧ vn = .int .i64 (topN t k)) (fun _ vk => 6 - (intOf vk).toNat)
  case atStart => exact ⟨0, by omega, rfl, by rw [topN_zero]⟩
  case round =>
    obtain ⟨k, hk, rfl, rfl⟩ := hrel
    by_cases hlt : k < 6
    · obtain ⟨ad, u, had, _, hu, hcell⟩ := Rp.sl_at1 rfl HR3.out (k := k) (by rw [h6l]; exact hlt)
      injection had with had
      subst had
      rw [show (⟨w1.heap.size, 0, none⟩ : Addr).add k = ⟨w1.heap.size, k, none⟩ from by unfold Addr.add; split <;> simp_all] at hcell
      have hu : u = .int .u8 (((digL t).take 6)[k]'(by rw [h6l]; exact hlt)).toNat := by cases hu; rfl
      rw [take6_at t k hlt] at hu
      subst hu
      obtain ⟨m, hm⟩ : ∃ m, fnv t / (16 ^ (15 - k) : Nat) = m := ⟨_, rfl⟩
      have HT := Lib.hid (topN_succ t (k := k) (by omega))
      rw [hm] at hcell HT
      clear hm
      obtain ⟨r1, r2⟩ := topN_range t (k := k) (by omega)
      have r3 : 0 ≤ m % 16 ∧ m % 16 < 16 := ⟨Int.emod_nonneg _ (by decide), Int.emod_lt_of_pos _ (by decide)⟩
      obtain ⟨r3, r4⟩ := r3
      have HI : Hid (∀ w, Calls Tryd.prog 46 #[.string (ByteArray.mk #[48, 49, 50, 51, 52, 53, 54, 55, 56, 57, 97, 98, 99, 100, 101, 102]), .int .u8 ((hexB m).toNat : Nat)] w fun e w' => e = .returned (.int .i64 (m % 16)) ∧ w = w') := Lib.hid (fun w => (indexByteS_any _ _ w).mono fun e w' ⟨h1, h2⟩ => ⟨by rw [h1, idx_digit], h2⟩)
      generalize topN t k = n at *
      generalize m % 16 = d at *
      go_wp2_with fail
      refine (HI.out _).mono ?_
      rintro e w4 ⟨rfl, rfl⟩
      go_wp2_with fail
      go_round
      case rel => exact ⟨k + 1, by omega, by go_num, by rw [HT.out]⟩
      case measure => simp [intOf]; omega
    · obtain rfl : k = 6 := by omega
      have c1 : _ = some (Value.int .i64 wt) := HK3.out.cell 1
      go_wp2_with fail
      go_ret
      exact ⟨by rw [HKS.out]; rfl, HB3.out⟩
end Go.Proofs.YtdeeiifcjbmmiaaDoor
