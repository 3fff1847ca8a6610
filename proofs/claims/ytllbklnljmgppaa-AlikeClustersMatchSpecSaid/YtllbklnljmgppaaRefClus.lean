/-
  ephemera/ephemeraref7.Clusters walked.
-/
import Derived.Test.YtllbklnljmgppaaClusF
import Derived.Test.YtllbklnljmgppaaIdxI
import Derived.Test.YtllbklnljmgppaaMix
import Derived.Deep.RegionLaw
import Derived.Deep.RegionHeld
import Derived.Deep.QuietTactic
import Derived.BigQuiet
namespace Go.Proofs.Ytllbklnljmgppaa
open Go.RowKit
set_option linter.unusedVariables false
set_option linter.unusedSimpArgs false

set_option maxRecDepth 100000 in
set_option maxHeartbeats 8000000 in
theorem refClus_any (v : Value) (ls : List (List UInt8)) (n num den : Int) (w : World) (h : (Rp.sl Rp.str).ok w (· < w.heap.size) [v] (ls.map bstr)) :
    Calls Try.prog 28 #[v, .int .i64 n, .agg #[.int .i64 num, .int .i64 den]] w (ClPost ls n num den w) := by
  obtain ⟨A, c, rfl, hlc, hc, _⟩ := Rp.sl_open h
  unfold maxLen at hc
  have HK0 : Hid (Blk (w.alloc (.cells #[.int .i64 num, .int .i64 den] 37)) w.heap.size 37 [.int .i64 num, .int .i64 den]) := Lib.hid (Blk.new w _ _)
  have HB0 : Hid (Below w.heap.size w (w.alloc (.cells #[.int .i64 num, .int .i64 den] 37))) := Lib.hid ((Below.refl _ _).alloc (Nat.le_refl _) _)
  have H := Lib.hid (Rp.below _ h HB0.out)
  have HW := Lib.hid h
  have HL : Hid ((ls.map bstr).length = ls.length) := Lib.hid (by rw [List.length_map])
  rw [HL.out] at hlc
  rw [HL.out] at H HW
  clear h
  rw [HL.out]
  go_enter Try.func28, Try.ntmps28
  go_wp2_with fail
  go_loop [25] (fun vk => ∃ k : Nat, k ≤ ls.length ∧ vk = .int .i64 k ∧ Hid (∀ t ∈ ls.take k, t.length ≤ 20000)) (fun vk => ls.length - (intOf vk).toNat)
  case atStart => exact ⟨0, Nat.zero_le _, rfl, by simp [Hid]⟩
  case round =>
    obtain ⟨k, hk, rfl, HT⟩ := hrel
    by_cases hlt : k < ls.length
    · obtain ⟨ad, u, rfl, _, hu, hcell⟩ := Rp.sl_at1 rfl H.out (k := k) (by rw [HL.out]; exact hlt)
      obtain ⟨hu1, hu2⟩ := hu
      injection hu1 with hu1
      rw [List.getElem_map] at hu1 hu2
      subst hu1
      obtain ⟨t, ht⟩ : ∃ t, ls[k] = t := ⟨_, rfl⟩
      have HTT := Lib.hid ht
      rw [ht] at hcell hu2
      clear ht
      have hsz : (bstr t).size = t.length := rfl
      unfold maxLen at hu2
      rw [hsz] at hu2
      by_cases hbig : 20000 < t.length
      · have HF : Hid (ClPost ls n num den w (.returned (.tuple #[.slice none 0 0, .int .i64 2])) (w.alloc (.cells #[.int .i64 num, .int .i64 den] 37))) := Lib.hid (cl_bad (clF_long hlt (by rw [HTT.out]; exact hbig)) (by decide) HB0.out)
        go_wp2_with fail
        go_ret2
        exact HF.out
      · have HT2 : Hid (∀ b ∈ ls.take (k + 1), b.length ≤ 20000) := Lib.hid (fun b hb => by
          rw [List.take_succ_eq_append_getElem hlt, List.mem_append, List.mem_singleton] at hb
          rcases hb with hb | rfl
          · exact HT.out b hb
          · rw [HTT.out]; omega)
        go_wp2_with fail
        go_round
        case rel => exact ⟨k + 1, by omega, by go_num, HT2⟩
        case measure => simp [intOf]; omega
    · obtain rfl : k = ls.length := by omega
      rw [List.take_length] at HT
      by_cases hm : 60 < ls.length
      · have HF : Hid (ClPost ls n num den w (.returned (.tuple #[.slice none 0 0, .int .i64 2])) (w.alloc (.cells #[.int .i64 num, .int .i64 den] 37))) := Lib.hid (cl_bad (clF_many HT.out hm) (by decide) HB0.out)
        go_wp2_with fail
        go_ret2
        exact HF.out
      have HFR := Lib.hid (clF_range (n := n) (num := num) (den := den) HT.out (by omega))
      have hm60 : ls.length ≤ 60 := by omega
      clear hm hk
      have k0 : _ = some (Value.int .i64 num) := HK0.out.cell 0
      have k1 : _ = some (Value.int .i64 den) := HK0.out.cell 1
      go_wp2_with fail
      refine (within_any n 1 10 _).mono ?_
      rintro e w1 ⟨rfl, hw1⟩
      subst hw1
      cases q1 : withinB n 1 10 with
      | false =>
        have HF : Hid (ClPost ls n num den w (.returned (.tuple #[.slice none 0 0, .int .i64 1])) (w.alloc (.cells #[.int .i64 num, .int .i64 den] 37))) := Lib.hid (cl_bad (by rw [HFR.out, rtB_1 q1]; rfl) (by decide) HB0.out)
        clear q1
        go_wp2_with fail
        go_ret2
        exact HF.out
      | true =>
      go_wp2_with fail
      refine (within_any den 1 1000000 _).mono ?_
      rintro e w1 ⟨rfl, hw1⟩
      subst hw1
      cases q2 : withinB den 1 1000000 with
      | false =>
        have HF : Hid (ClPost ls n num den w (.returned (.tuple #[.slice none 0 0, .int .i64 1])) (w.alloc (.cells #[.int .i64 num, .int .i64 den] 37))) := Lib.hid (cl_bad (by rw [HFR.out, rtB_2 q2]; rfl) (by decide) HB0.out)
        clear q1 q2
        go_wp2_with fail
        go_ret2
        exact HF.out
      | true =>
      go_wp2_with fail
      refine (within_any num 0 den _).mono ?_
      rintro e w1 ⟨rfl, hw1⟩
      subst hw1
      cases q3 : withinB num 0 den with
      | false =>
        have HF : Hid (ClPost ls n num den w (.returned (.tuple #[.slice none 0 0, .int .i64 1])) (w.alloc (.cells #[.int .i64 num, .int .i64 den] 37))) := Lib.hid (cl_bad (by rw [HFR.out, rtB_3 q3]; rfl) (by decide) HB0.out)
        clear q1 q2 q3
        go_wp2_with fail
        go_ret2
        exact HF.out
      | true =>
      have HF : Hid (clF ls n num den = 0) := Lib.hid (by rw [HFR.out, if_pos (by unfold rtB; rw [show isSh n = true from q1, show decide (1 ≤ den ∧ den ≤ 1000000) = true from q2, show decide (0 ≤ num ∧ num ≤ den) = true from q3]; rfl)])
      have b1 := of_decide_eq_true q1
      have b2 := of_decide_eq_true q2
      have b3 := of_decide_eq_true q3
      clear q1 q2 q3 HFR k0 k1
      obtain ⟨m, rfl⟩ := Int.eq_ofNat_of_zero_le (show 0 ≤ n by omega)
      obtain ⟨N, rfl⟩ := Int.eq_ofNat_of_zero_le (show 0 ≤ num by omega)
      obtain ⟨D, rfl⟩ := Int.eq_ofNat_of_zero_le (show 0 ≤ den by omega)
      obtain ⟨L, hL⟩ : ∃ L, ls.length = L := ⟨_, rfl⟩
      rw [hL] at hlc H HW hm60 ⊢
      have hmk := fun w => run_make1R (P := Try.prog) w 47 3 (.int .i64 0) 8 Try.underlying47 (by kernel_rfl) rfl L (by omega) (by omega)
      have HLL := Lib.hid hL
      clear hL
      go_wp2_with fail
      have HST0 := Lib.hid (ClSt.start N D L w)
      obtain ⟨gb, hgb⟩ : ∃ gb, gb = w.heap.size + 1 := ⟨_, rfl⟩
      rw [← hgb] at HST0 ⊢
      have HGB := Lib.hid hgb
      clear hgb
      have hok := clF_good HF.out
      have HS1 : Hid (∀ t ∈ ls, t.length ≤ 20000) := Lib.hid hok.1
      have HSO : Hid (∀ k, ((shs ls (m : Int)).getD k []).Pairwise (· < ·)) := Lib.hid (fun k => shs_sorted k)
      have HSN : Hid (∀ k, ((shs ls (m : Int)).getD k []).length ≤ 20001) := Lib.hid (fun k => shs_len hok.1 hok.2.2.1 k)
      have HSR : Hid (∀ k x, x ∈ (shs ls (m : Int)).getD k [] → 0 ≤ x ∧ x ≤ 18446744073709551615) := Lib.hid (fun k x hx => shs_range hx)
      have HSP : Hid (∀ (k : Nat) (h : k < ls.length), (shs ls (m : Int)).take (k + 1) = (shs ls (m : Int)).take k ++ [shL ls[k] m]) := Lib.hid (fun k h => by rw [take_shs h, Int.toNat_natCast])
      have HSL : Hid ((shs ls (m : Int)).length = L) := Lib.hid (by rw [shs_length, HLL.out])
      have HQ : Hid (∀ G, gR (alS N D (shs ls (m : Int))) L L = G → clO ls (m : Int) N D = grps G) := Lib.hid (fun G hG => by
        unfold clO clG; rw [if_pos HF.out, HLL.out, Int.toNat_natCast, Int.toNat_natCast, hG])
      clear hok
      generalize shs ls (m : Int) = S at *
      have HMF := Lib.hid b1
      go_loopw [10, 58] (fun va vi wr => ∃ k : Nat, k ≤ L ∧ vi = .int .i64 k ∧ Hid (ClSt N D (S.take k) va gb (base0 L k) w wr)) (fun _ vi _ => L - (intOf vi).toNat)
      case atStart => exact ⟨0, Nat.zero_le _, rfl, HST0⟩
      case round =>
        clear HST0
        obtain ⟨k, hk, rfl, HST⟩ := hrel
        by_cases hkl : k < L
        · obtain ⟨ad, u, rfl, _, hu, hcell⟩ := Rp.sl_at1 rfl (Rp.below _ HW.out HST.out.bel) (k := k) (by rw [HL.out, HLL.out]; exact hkl)
          obtain ⟨hu1, hu2⟩ := hu
          injection hu1 with hu1
          rw [List.getElem_map] at hu1 hu2
          subst hu1
          have ht := HS1.out _ (List.getElem_mem (show k < ls.length by rw [HLL.out]; exact hkl))
          have HP := Lib.hid (HSP.out k (by rw [HLL.out]; exact hkl))
          generalize ls[k]'_ = t at *
          go_wp2_with fail
          refine (refShingles_any t m wr ht (by omega) (by omega)).mono ?_
          rintro e w2 ⟨u, rfl, hO, hb⟩
          obtain ⟨A2, c2, rfl, _, _, _⟩ := own_form hO
          obtain ⟨xs, hox, hpush⟩ := HST.out.open_
          have HKL : Hid ((S.take k).length = k) := Lib.hid (by rw [List.length_take, HSL.out]; omega)
          have HOX := Lib.hid (own_belowU hox hb)
          have HBW := Lib.hid (HST.out.below hb).bel.size
          have HU := Lib.hid (hpush w2)
          have HOU := Lib.hid hO
          have HBB := Lib.hid hb
          clear hO hb hox hpush HST hcell
          go_wp2_with (at_builtin; (refine app_new (w := w2) rfl (.tmp 65) (.tmp 69) 61 rfl 22 (.slice none 0 0) 1 24 Try.underlying61 (by kernel_rfl) rfl (by decide) _ HOX.out HBW.out rfl rfl rfl (by decide) (by simp [Value.oneCell']) (by rw [HKL.out]; unfold maxLen; omega) (by rw [HKL.out]; omega) ?_; intro g4 c4 w4 HB4 HG4 HD4 HL4; have HS4 := Lib.hid (HU.out w4 _ _ _ HBB.out HOU.out HG4.out HD4.out HB4.out); have gc := HS4.out.g_at (j := k) (by rw [base0_len (by omega)]; exact hkl); have gf := HS4.out.kg.frozen k; clear HB4 HG4 HD4 HL4 HU HOU HBB HOX))
          have h5 := HS4.out.setG k k
          rw [base0_set hkl, ← HP.out, List.length_take] at h5
          have HS5 := Lib.hid h5
          clear h5
          go_roundw
          case rel => exact ⟨k + 1, by omega, by go_num, HS5⟩
          case measure => simp [intOf]; omega
        · obtain rfl : k = L := by omega
          rw [List.take_of_length_le (by rw [HSL.out]; exact Nat.le_refl _), base0_full] at HST
          obtain ⟨va, hva⟩ : ∃ va, va = u10 := ⟨_, rfl⟩
          rw [← hva] at HST ⊢
          clear hva
          obtain ⟨L, hLL⟩ : ∃ L, L = k := ⟨_, rfl⟩
          subst hLL
          have HS0 : Hid (ClSt N D S va gb (gR (alS N D S) L 0) w wr) := HST
          clear HST
          go_wp2_with fail
          go_loopw [76] (fun vi wr => ∃ i : Nat, i ≤ L ∧ vi = .int .i64 i ∧ Hid (ClSt N D S va gb (gR (alS N D S) L i) w wr)) (fun vi _ => L - (intOf vi).toNat)
          case atStart => exact ⟨0, Nat.zero_le _, rfl, HS0⟩
          case round =>
            clear HS0
            obtain ⟨i, hi, rfl, HSI⟩ := hrel
            by_cases hil : i < L
            · go_wp2_with fail
              go_loopw [80] (fun vk wr => ∃ k : Nat, k ≤ i ∧ vk = .int .i64 k ∧ Hid (ClSt N D S va gb (inR (alS N D S) i k (gR (alS N D S) L i)) w wr)) (fun vk _ => i - (intOf vk).toNat)
              case atStart => exact ⟨0, Nat.zero_le _, rfl, HSI⟩
              case round =>
                clear HSI
                obtain ⟨k, hk, rfl, HST⟩ := hrel
                by_cases hki : k < i
                · obtain ⟨G, hG⟩ : ∃ G, inR (alS N D S) i k (gR (alS N D S) L i) = G := ⟨_, rfl⟩
                  have HGL : Hid (G.length = L) := Lib.hid (by rw [← hG, inR_len, gR_len])
                  have HGG := Lib.hid hG
                  rw [hG] at HST
                  clear hG
                  obtain ⟨x, y, hxy⟩ : ∃ x y : Nat, resQ (S.getD i []) (S.getD k []) = (x, y) := ⟨_, _, rfl⟩
                  have HXY := Lib.hid hxy
                  have HAL : Hid (alS N D S i k = decide (N * y ≤ x * D)) := Lib.hid (by unfold alS alB; rw [hxy])
                  have hxs := resQ_small (HSN.out i) (HSN.out k)
                  rw [hxy] at hxs
                  obtain ⟨hx1, hy1⟩ := hxs
                  have hx1 : x ≤ 40002 := hx1
                  have hy1 : y ≤ 40002 := hy1
                  have m1 : x * D ≤ 40002 * 1000000 := Nat.mul_le_mul hx1 (by omega)
                  have m2 : N * y ≤ 1000000 * 40002 := Nat.mul_le_mul (by omega) hy1
                  have i1 : IntKind.i64.wrap ((x : Int) * (D : Int)) = (x : Int) * (D : Int) := IntWalk.i64_in _ (by rw [← Int.natCast_mul]; omega)
                  have i2 : IntKind.i64.wrap ((N : Int) * (y : Int)) = (N : Int) * (y : Int) := IntWalk.i64_in _ (by rw [← Int.natCast_mul]; omega)
                  clear hxy m1 m2
                  obtain ⟨ga, ca, ui, hva, hci, hoi⟩ := HST.out.s_at (k := i) (by rw [HSL.out]; omega)
                  obtain ⟨ga2, ca2, uk, hva2, hck, hok⟩ := HST.out.s_at (k := k) (by rw [HSL.out]; omega)
                  rw [HSL.out] at hva hva2
                  subst hva
                  injection hva2 with hva2 _ hca
                  injection hva2 with hva2
                  injection hva2 with hva2
                  subst hva2 hca
                  have hgl : ga < wr.heap.size := by simpa using World.block_lt_of_cell? wr _ hci
                  have KEEP : Hid (∀ w', Below wr.heap.size wr w' → w'.cell? ⟨ga, i, none⟩ = some ui ∧ w'.cell? ⟨ga, k, none⟩ = some uk) := Lib.hid (fun w' hb => ⟨((same_below hb).cell (a := ⟨ga, i, none⟩) hgl).trans hci, ((same_below hb).cell (a := ⟨ga, k, none⟩) hgl).trans hck⟩)
                  have HOI := Lib.hid (row_read hoi (HSR.out i))
                  have HOK := Lib.hid (row_read hok (HSR.out k))
                  clear hci hck hoi hok hgl
                  have hil : (i : Int) < (L : Int) := by omega
                  have hkl : (k : Int) < (L : Int) := by omega
                  go_wp2_with fail
                  refine wp_region_held_drew (S := fun w' => w'.cell? ⟨ga, i, none⟩ = some ui ∧ w'.cell? ⟨ga, k, none⟩ = some uk) (by kernel_rfl) (KEEP.out _ (Below.drew (Below.refl _ _))) (fun hHeld => ?_)
                  obtain ⟨wq, hwq⟩ : ∃ wq, wq = World.drew wr := ⟨_, rfl⟩
                  have HG0 : Hid (Below wr.heap.size wr wq) := Lib.hid (by rw [hwq]; exact Below.drew (Below.refl _ _))
                  rw [← hwq] at hHeld ⊢
                  clear hwq
                  have HQI := Lib.hid (Rp.ext _ HOI.out HG0.out)
                  have HQK := Lib.hid (Rp.ext _ HOK.out HG0.out)
                  have HSQ := Lib.hid (HST.out.below HG0.out)
                  clear HST HOI HOK
                  refine wpAnyH_take (i := 0) (v := ?_) rfl (by kernel_rfl) (by kernel_rfl) (by kernel_rfl) (fun _ _ _ h => h) (Or.inl ⟨by rfl, ?_⟩) (by assumption) ?_
                  rotate_left
                  · (intro w hSw; (try dsimp only at hSw); go_simp; try with_reducible rfl)
                  try simp only [List.getElem_toArray, List.getElem_cons_succ, List.getElem_cons_zero, Act.put, List.setIfInBounds_toArray, List.set_cons_zero, List.set_cons_succ]
                  refine wpAnyH_take (i := 1) (v := ?_) rfl (by kernel_rfl) (by kernel_rfl) (by kernel_rfl) (fun _ _ _ h => h) (Or.inl ⟨by rfl, ?_⟩) (by assumption) ?_
                  rotate_left
                  · (intro w hSw; (try dsimp only at hSw); go_simp; try with_reducible rfl)
                  try simp only [List.getElem_toArray, List.getElem_cons_succ, List.getElem_cons_zero, Act.put, List.setIfInBounds_toArray, List.set_cons_zero, List.set_cons_succ]
                  refine wpAnyH_take (i := 2) (v := ?_) rfl (by kernel_rfl) (by kernel_rfl) (by kernel_rfl) (fun _ _ _ h => h) (Or.inl ⟨by rfl, ?_⟩) (by assumption) ?_
                  rotate_left
                  · (intro w hSw; (try dsimp only at hSw); go_simp; try with_reducible rfl)
                  try simp only [List.getElem_toArray, List.getElem_cons_succ, List.getElem_cons_zero, Act.put, List.setIfInBounds_toArray, List.set_cons_zero, List.set_cons_succ]
                  refine wpAnyH_take (i := 3) (v := ?_) rfl (by kernel_rfl) (by kernel_rfl) (by kernel_rfl) (fun _ _ _ h => h) (Or.inl ⟨by rfl, ?_⟩) (by assumption) ?_
                  rotate_left
                  · (intro w hSw; (try dsimp only at hSw); go_simp; try with_reducible rfl)
                  try simp only [List.getElem_toArray, List.getElem_cons_succ, List.getElem_cons_zero, Act.put, List.setIfInBounds_toArray, List.set_cons_zero, List.set_cons_succ]
                  refine wpAnyH_take (i := 4) (v := ?_) rfl (by kernel_rfl) (by kernel_rfl) (by kernel_rfl) (fun _ _ _ h => h) (Or.inl ⟨by rfl, ?_⟩) (by assumption) ?_
                  rotate_left
                  · (intro w hSw; (try dsimp only at hSw); go_simp; try with_reducible rfl)
                  try simp only [List.getElem_toArray, List.getElem_cons_succ, List.getElem_cons_zero, Act.put, List.setIfInBounds_toArray, List.set_cons_zero, List.set_cons_succ]
                  refine wpAnyH_take (i := 5) (v := ?_) rfl (by kernel_rfl) (by kernel_rfl) (by kernel_rfl) (fun _ _ _ h => h) (Or.inl ⟨by rfl, ?_⟩) (by assumption) ?_
                  rotate_left
                  · (intro w hSw; (try dsimp only at hSw); go_simp; try with_reducible rfl)
                  try simp only [List.getElem_toArray, List.getElem_cons_succ, List.getElem_cons_zero, Act.put, List.setIfInBounds_toArray, List.set_cons_zero, List.set_cons_succ]
                  refine wpAnyH_take (i := 6) (v := ?_) rfl (by kernel_rfl) (by kernel_rfl) (by kernel_rfl) (fun _ _ _ h => h) (Or.inl ⟨by rfl, ?_⟩) (by assumption) ?_
                  rotate_left
                  · (intro w hSw; (try dsimp only at hSw); go_simp; try with_reducible rfl)
                  try simp only [List.getElem_toArray, List.getElem_cons_succ, List.getElem_cons_zero, Act.put, List.setIfInBounds_toArray, List.set_cons_zero, List.set_cons_succ]
                  refine wpAnyH_take (i := 7) (v := ?_) rfl (by kernel_rfl) (by kernel_rfl) (by kernel_rfl) (fun _ _ _ h => h) (Or.inl ⟨by rfl, ?_⟩) (by assumption) ?_
                  rotate_left
                  · (intro w hSw; (try dsimp only at hSw); go_simp; try with_reducible rfl)
                  try simp only [List.getElem_toArray, List.getElem_cons_succ, List.getElem_cons_zero, Act.put, List.setIfInBounds_toArray, List.set_cons_zero, List.set_cons_succ]
                  refine wpAnyH_ready (rs := [8, 9]) (by kernel_rfl) (by simp) ?_
                  refine AllReadyH.cons rfl (fun K hK => ?_) (AllReadyH.cons rfl (fun K hK => ?_) AllReadyH.nil)
                  · rw [if_pos (by rfl)]
                    simp only [List.getElem_toArray, List.getElem_cons_succ, List.getElem_cons_zero]
                    go_simp
                    go_at_call 45
                    refine (refResem_any _ _ _ _ wq HQI.out HQK.out (HSO.out i) (HSO.out k) (Nat.le_trans (HSN.out i) (by decide)) (Nat.le_trans (HSN.out k) (by decide))).mono ?_
                    rintro e w5 ⟨rfl, hb5⟩
                    rw [HXY.out, show pairV (x, y) = .agg #[.int .i64 (x : Nat), .int .i64 (y : Nat)] from rfl]
                    have HB5 := Lib.hid (HG0.out.trans (hb5.mono HG0.out.size))
                    have HS5 := Lib.hid (HSQ.out.below hb5)
                    clear hb5 HSQ HQI HQK
                    show K _ w5
                    refine hK.out _ _ (KEEP.out _ HB5.out) (fun hHeld => ?_)
                    clear hK K
                    try simp only [List.getElem_toArray, List.getElem_cons_succ, List.getElem_cons_zero, Act.put, List.setIfInBounds_toArray, List.set_cons_zero, List.set_cons_succ]
                    refine wpAnyH_ready (rs := [9]) (by kernel_rfl) (by simp) ?_
                    refine AllReadyH.cons rfl (fun K hK => ?_) AllReadyH.nil
                    rw [if_pos (by rfl)]
                    simp only [List.getElem_toArray, List.getElem_cons_succ, List.getElem_cons_zero]
                    go_simp
                    refine hK.out _ _ (KEEP.out _ (HB5.out.alloc HB5.out.size _)) (fun hHeld => ?_)
                    clear hK K
                    try simp only [List.getElem_toArray, List.getElem_cons_succ, List.getElem_cons_zero, Act.put, List.setIfInBounds_toArray, List.set_cons_zero, List.set_cons_succ]
                    refine wpAnyH_ready (rs := [10]) (by kernel_rfl) (by simp) ?_
                    refine AllReadyH.cons rfl (fun K hK => ?_) AllReadyH.nil
                    rw [if_pos (by rfl)]
                    simp only [List.getElem_toArray, List.getElem_cons_succ, List.getElem_cons_zero]
                    go_simp
                    refine hK.out _ _ (KEEP.out _ (HB5.out.alloc HB5.out.size _)) (fun hHeld => ?_)
                    clear hK K hHeld
                    try simp only [List.getElem_toArray, List.getElem_cons_succ, List.getElem_cons_zero, Act.put, List.setIfInBounds_toArray, List.set_cons_zero, List.set_cons_succ]
                    refine wpAnyH_done (by kernel_rfl) ?_ _
                    have HSZ := Lib.hid (HS5.out.alloc (.cells #[.int .i64 x, .int .i64 y] 37))
                    have HRZ := Lib.hid (Blk.new w5 37 [.int .i64 (x : Nat), .int .i64 (y : Nat)])
                    clear HS5 HB5 KEEP HG0
                    generalize w5.alloc (.cells #[.int .i64 x, .int .i64 y] 37) = wz at *
                    generalize w5.heap.size = rb at *
                    have hrl := HSZ.out.kl.cell 0
                    have hrd := HSZ.out.kl.cell 1
                    have r0 : _ = some (Value.int .i64 x) := HRZ.out.cell 0
                    have r1 : _ = some (Value.int .i64 y) := HRZ.out.cell 1
                    have hrl : _ = some (Value.int .i64 N) := hrl
                    have hrd : _ = some (Value.int .i64 D) := hrd
                    by_cases hal : N * y ≤ x * D
                    · have HM : Hid (mgR (alS N D S) i k G = rel1 (G.getD i 0) (G.getD k 0) G) := Lib.hid (if_pos (by rw [HAL.out]; exact decide_eq_true hal))
                      have hd : decide ((N : Int) * (y : Int) ≤ (x : Int) * (D : Int)) = true := decide_eq_true (by rw [← Int.natCast_mul, ← Int.natCast_mul]; omega)
                      have g_i := HSZ.out.g_at (j := i) (by rw [HGL.out]; omega)
                      obtain ⟨f, hf⟩ : ∃ f, G.getD i 0 = f := ⟨_, rfl⟩
                      obtain ⟨t, ht⟩ : ∃ t, G.getD k 0 = t := ⟨_, rfl⟩
                      have HT := Lib.hid ht
                      rw [hf] at g_i HM
                      rw [ht] at HM
                      clear hal hf ht
                      go_wp2_with fail
                      go_loopw [109] (fun vx wy => ∃ z : Nat, z ≤ L ∧ vx = .int .i64 z ∧ Hid (ClSt N D S (.slice (some ⟨ga, 0, none⟩) L ca) gb (relP f t G z) w wy)) (fun vx _ => L - (intOf vx).toNat)
                      case atStart => exact ⟨0, Nat.zero_le _, rfl, by rw [relP_zero]; exact HSZ⟩
                      case round =>
                        clear r0 r1 hrl hrd g_i HSZ HRZ
                        obtain ⟨z, hz, rfl, HSY⟩ := hrel
                        by_cases hzl : z < L
                        · have g_z := HSY.out.g_at (j := z) (by rw [relP_len, HGL.out]; omega)
                          have g_k := HSY.out.g_at (j := k) (by rw [relP_len, HGL.out]; omega)
                          rw [relP_at (by rw [HGL.out]; omega), if_neg (by omega)] at g_z
                          rw [relP_at (by rw [HGL.out]; omega), HT.out, ite_self] at g_k
                          have hfz := HSY.out.kg.frozen z
                          obtain ⟨q, hq⟩ : ∃ q, G.getD z 0 = q := ⟨_, rfl⟩
                          rw [hq] at g_z
                          by_cases hqf : q = f
                          · have h1 : ((q : Int) == (f : Int)) = true := by rw [hqf]; simp
                            have HSX : Hid (ClSt N D S (.slice (some ⟨ga, 0, none⟩) L ca) gb (relP f t G (z + 1)) w (wr.setCell ⟨gb, z, none⟩ (.int .i64 t))) := Lib.hid (by rw [← relP_set (by rw [HGL.out]; exact hzl) (hq.trans hqf)]; exact HSY.out.setG z t)
                            clear hq hqf HSY
                            go_wp2_with fail
                            go_roundw
                            case rel => exact ⟨z + 1, by omega, by go_num, HSX⟩
                            case measure => simp [intOf]; omega
                          · have h1 : ((q : Int) == (f : Int)) = false := by rw [beq_eq_false_iff_ne]; omega
                            have HSX : Hid (ClSt N D S (.slice (some ⟨ga, 0, none⟩) L ca) gb (relP f t G (z + 1)) w wr) := Lib.hid (by rw [← relP_skip (by rw [HGL.out]; exact hzl) (fun e => hqf (hq.symm.trans e))]; exact HSY.out)
                            clear hq hqf HSY
                            go_wp2_with fail
                            go_roundw
                            case rel => exact ⟨z + 1, by omega, by go_num, HSX⟩
                            case measure => simp [intOf]; omega
                        · have HSX : Hid (ClSt N D S (.slice (some ⟨ga, 0, none⟩) L ca) gb (mgR (alS N D S) i k G) w wr) := Lib.hid (by rw [HM.out, ← relP_full f t G z (by rw [HGL.out]; omega)]; exact HSY.out)
                          clear HSY
                          go_wp2_with fail
                          go_roundw
                          case rel => exact ⟨k + 1, by omega, by go_num, by show Hid (ClSt N D S (.slice (some ⟨ga, 0, none⟩) L ca) gb (mgR (alS N D S) i k (inR (alS N D S) i k (gR (alS N D S) L i))) w wr); rw [HGG.out]; exact HSX⟩
                          case measure => simp [intOf]; omega
                    · have HM : Hid (mgR (alS N D S) i k G = G) := Lib.hid (if_neg (by rw [HAL.out]; exact fun h => hal (of_decide_eq_true h)))
                      have hd : decide ((N : Int) * (y : Int) ≤ (x : Int) * (D : Int)) = false := decide_eq_false (by rw [← Int.natCast_mul, ← Int.natCast_mul]; omega)
                      clear hal
                      go_wp2_with fail
                      go_roundw
                      case rel => exact ⟨k + 1, by omega, by go_num, by show Hid (ClSt N D S (.slice (some ⟨ga, 0, none⟩) L ca) gb (mgR (alS N D S) i k (inR (alS N D S) i k (gR (alS N D S) L i))) w wz); rw [HGG.out, HM.out]; exact HSZ⟩
                      case measure => simp [intOf]; omega
                  · rw [if_pos (by rfl)]
                    simp only [List.getElem_toArray, List.getElem_cons_succ, List.getElem_cons_zero]
                    go_simp
                    have HBA := Lib.hid (HG0.out.alloc HG0.out.size (.cells #[.int .i64 0, .int .i64 0] 37))
                    refine hK.out _ _ (KEEP.out _ HBA.out) (fun hHeld => ?_)
                    clear hK K
                    try simp only [List.getElem_toArray, List.getElem_cons_succ, List.getElem_cons_zero, Act.put, List.setIfInBounds_toArray, List.set_cons_zero, List.set_cons_succ]
                    have HSA := Lib.hid (HSQ.out.alloc (.cells #[.int .i64 0, .int .i64 0] 37))
                    have HRA := Lib.hid (Blk.new wq 37 [.int .i64 0, .int .i64 0])
                    have hba := (Below.refl wq.heap.size wq).alloc (Nat.le_refl _) (.cells #[.int .i64 0, .int .i64 0] 37)
                    have HQI2 := Lib.hid (Rp.ext _ HQI.out hba)
                    have HQK2 := Lib.hid (Rp.ext _ HQK.out hba)
                    have hrb : wr.heap.size ≤ wq.heap.size := HG0.out.size
                    have hrb2 : w.heap.size < wq.heap.size := HSQ.out.kl.lt
                    clear hba HQI HQK HSQ
                    generalize hwa : wq.alloc (.cells #[.int .i64 0, .int .i64 0] 37) = wa at *
                    generalize wq.heap.size = rb at *
                    clear hwa
                    refine wpAnyH_ready (rs := [8]) (by kernel_rfl) (by simp) ?_
                    refine AllReadyH.cons rfl (fun K hK => ?_) AllReadyH.nil
                    rw [if_pos (by rfl)]
                    simp only [List.getElem_toArray, List.getElem_cons_succ, List.getElem_cons_zero]
                    go_simp
                    go_at_call 45
                    refine (refResem_any _ _ _ _ wa HQI2.out HQK2.out (HSO.out i) (HSO.out k) (Nat.le_trans (HSN.out i) (by decide)) (Nat.le_trans (HSN.out k) (by decide))).mono ?_
                    rintro e w5 ⟨rfl, hb5⟩
                    rw [HXY.out, show pairV (x, y) = .agg #[.int .i64 (x : Nat), .int .i64 (y : Nat)] from rfl]
                    have HB5 := Lib.hid (HBA.out.trans (hb5.mono HBA.out.size))
                    have HS5 := Lib.hid (HSA.out.below hb5)
                    have hr5 := HRA.out.same (same_below hb5) HRA.out.lt
                    have c0 : _ = some (Value.int .i64 0) := hr5.cell 0
                    have c1 : _ = some (Value.int .i64 0) := hr5.cell 1
                    have y0 := hr5.frozen 0
                    have y1 := hr5.frozen 1
                    have HR5 := Lib.hid hr5
                    clear hb5 HSA HQI2 HQK2 hr5 HRA
                    show K _ w5
                    refine hK.out _ _ (KEEP.out _ HB5.out) (fun hHeld => ?_)
                    clear hK K
                    try simp only [List.getElem_toArray, List.getElem_cons_succ, List.getElem_cons_zero, Act.put, List.setIfInBounds_toArray, List.set_cons_zero, List.set_cons_succ]
                    refine wpAnyH_ready (rs := [10]) (by kernel_rfl) (by simp) ?_
                    refine AllReadyH.cons rfl (fun K hK => ?_) AllReadyH.nil
                    rw [if_pos (by rfl)]
                    simp only [List.getElem_toArray, List.getElem_cons_succ, List.getElem_cons_zero]
                    go_simp
                    refine hK.out _ _ (KEEP.out _ ((HB5.out.setCell (p := ⟨rb, 0, none⟩) hrb (.int .i64 x)).setCell (p := ⟨rb, 1, none⟩) hrb (.int .i64 y))) (fun hHeld => ?_)
                    clear hK K hHeld c0 c1 y0 y1
                    try simp only [List.getElem_toArray, List.getElem_cons_succ, List.getElem_cons_zero, Act.put, List.setIfInBounds_toArray, List.set_cons_zero, List.set_cons_succ]
                    refine wpAnyH_done (by kernel_rfl) ?_ _
                    have HSZ := Lib.hid ((HS5.out.setB HR5.out hrb2 0 (.int .i64 x)).setB (HR5.out.set_ 0 (.int .i64 x)) hrb2 1 (.int .i64 y))
                    have HRZ := Lib.hid ((HR5.out.set_ 0 (.int .i64 x)).set_ 1 (.int .i64 y))
                    clear HS5 HB5 KEEP HG0 HBA HR5
                    generalize (w5.setCell ⟨rb, 0, none⟩ (.int .i64 x)).setCell ⟨rb, 1, none⟩ (.int .i64 y) = wz at *
                    have hrl := HSZ.out.kl.cell 0
                    have hrd := HSZ.out.kl.cell 1
                    have r0 : _ = some (Value.int .i64 x) := HRZ.out.cell 0
                    have r1 : _ = some (Value.int .i64 y) := HRZ.out.cell 1
                    have hrl : _ = some (Value.int .i64 N) := hrl
                    have hrd : _ = some (Value.int .i64 D) := hrd
                    by_cases hal : N * y ≤ x * D
                    · have HM : Hid (mgR (alS N D S) i k G = rel1 (G.getD i 0) (G.getD k 0) G) := Lib.hid (if_pos (by rw [HAL.out]; exact decide_eq_true hal))
                      have hd : decide ((N : Int) * (y : Int) ≤ (x : Int) * (D : Int)) = true := decide_eq_true (by rw [← Int.natCast_mul, ← Int.natCast_mul]; omega)
                      have g_i := HSZ.out.g_at (j := i) (by rw [HGL.out]; omega)
                      obtain ⟨f, hf⟩ : ∃ f, G.getD i 0 = f := ⟨_, rfl⟩
                      obtain ⟨t, ht⟩ : ∃ t, G.getD k 0 = t := ⟨_, rfl⟩
                      have HT := Lib.hid ht
                      rw [hf] at g_i HM
                      rw [ht] at HM
                      clear hal hf ht
                      go_wp2_with fail
                      go_loopw [109] (fun vx wy => ∃ z : Nat, z ≤ L ∧ vx = .int .i64 z ∧ Hid (ClSt N D S (.slice (some ⟨ga, 0, none⟩) L ca) gb (relP f t G z) w wy)) (fun vx _ => L - (intOf vx).toNat)
                      case atStart => exact ⟨0, Nat.zero_le _, rfl, by rw [relP_zero]; exact HSZ⟩
                      case round =>
                        clear r0 r1 hrl hrd g_i HSZ HRZ
                        obtain ⟨z, hz, rfl, HSY⟩ := hrel
                        by_cases hzl : z < L
                        · have g_z := HSY.out.g_at (j := z) (by rw [relP_len, HGL.out]; omega)
                          have g_k := HSY.out.g_at (j := k) (by rw [relP_len, HGL.out]; omega)
                          rw [relP_at (by rw [HGL.out]; omega), if_neg (by omega)] at g_z
                          rw [relP_at (by rw [HGL.out]; omega), HT.out, ite_self] at g_k
                          have hfz := HSY.out.kg.frozen z
                          obtain ⟨q, hq⟩ : ∃ q, G.getD z 0 = q := ⟨_, rfl⟩
                          rw [hq] at g_z
                          by_cases hqf : q = f
                          · have h1 : ((q : Int) == (f : Int)) = true := by rw [hqf]; simp
                            have HSX : Hid (ClSt N D S (.slice (some ⟨ga, 0, none⟩) L ca) gb (relP f t G (z + 1)) w (wr.setCell ⟨gb, z, none⟩ (.int .i64 t))) := Lib.hid (by rw [← relP_set (by rw [HGL.out]; exact hzl) (hq.trans hqf)]; exact HSY.out.setG z t)
                            clear hq hqf HSY
                            go_wp2_with fail
                            go_roundw
                            case rel => exact ⟨z + 1, by omega, by go_num, HSX⟩
                            case measure => simp [intOf]; omega
                          · have h1 : ((q : Int) == (f : Int)) = false := by rw [beq_eq_false_iff_ne]; omega
                            have HSX : Hid (ClSt N D S (.slice (some ⟨ga, 0, none⟩) L ca) gb (relP f t G (z + 1)) w wr) := Lib.hid (by rw [← relP_skip (by rw [HGL.out]; exact hzl) (fun e => hqf (hq.symm.trans e))]; exact HSY.out)
                            clear hq hqf HSY
                            go_wp2_with fail
                            go_roundw
                            case rel => exact ⟨z + 1, by omega, by go_num, HSX⟩
                            case measure => simp [intOf]; omega
                        · have HSX : Hid (ClSt N D S (.slice (some ⟨ga, 0, none⟩) L ca) gb (mgR (alS N D S) i k G) w wr) := Lib.hid (by rw [HM.out, ← relP_full f t G z (by rw [HGL.out]; omega)]; exact HSY.out)
                          clear HSY
                          go_wp2_with fail
                          go_roundw
                          case rel => exact ⟨k + 1, by omega, by go_num, by show Hid (ClSt N D S (.slice (some ⟨ga, 0, none⟩) L ca) gb (mgR (alS N D S) i k (inR (alS N D S) i k (gR (alS N D S) L i))) w wr); rw [HGG.out]; exact HSX⟩
                          case measure => simp [intOf]; omega
                    · have HM : Hid (mgR (alS N D S) i k G = G) := Lib.hid (if_neg (by rw [HAL.out]; exact fun h => hal (of_decide_eq_true h)))
                      have hd : decide ((N : Int) * (y : Int) ≤ (x : Int) * (D : Int)) = false := decide_eq_false (by rw [← Int.natCast_mul, ← Int.natCast_mul]; omega)
                      clear hal
                      go_wp2_with fail
                      go_roundw
                      case rel => exact ⟨k + 1, by omega, by go_num, by show Hid (ClSt N D S (.slice (some ⟨ga, 0, none⟩) L ca) gb (mgR (alS N D S) i k (inR (alS N D S) i k (gR (alS N D S) L i))) w wz); rw [HGG.out, HM.out]; exact HSZ⟩
                      case measure => simp [intOf]; omega
                · obtain rfl : k = i := by omega
                  go_wp2_with fail
                  go_roundw
                  case rel => exact ⟨k + 1, by omega, by go_num, HST⟩
                  case measure => simp [intOf]; omega
            · obtain rfl : i = L := by omega
              obtain ⟨G, hG⟩ : ∃ G, gR (alS N D S) i i = G := ⟨_, rfl⟩
              have HGL : Hid (G.length = i) := Lib.hid (by rw [← hG, gR_len])
              have HGG := Lib.hid hG
              rw [hG] at HSI
              clear hG hil hi
              obtain ⟨L, hLL⟩ : ∃ L, L = i := ⟨_, rfl⟩
              subst hLL
              go_wp2_with fail
              go_loopw [19, 130] (fun vo vi wr => ∃ i : Nat, i ≤ L ∧ vi = .int .i64 i ∧ Hid (ClSt N D S va gb G w wr) ∧ Hid (Nest1 (fun g : List Nat => g.map natV) 47 3 w.heap.size wr vo (outsR G L i))) (fun _ vi _ => L - (intOf vi).toNat)
              case atStart => exact ⟨0, Nat.zero_le _, rfl, HSI, Lib.hid (Nest.nil _)⟩
              case round =>
                clear HSI
                obtain ⟨i, hi, rfl, HST, HNO⟩ := hrel
                by_cases hil : i < L
                · have g_i := HST.out.g_at (j := i) (by rw [HGL.out]; omega)
                  obtain ⟨x, hx⟩ : ∃ x, G.getD i 0 = x := ⟨_, rfl⟩
                  rw [hx] at g_i
                  have hid := idxNat_any gb L G x i wr HST.out.kg (by rw [HGL.out]; exact hil) hx (by rw [HGL.out]; exact Nat.le_refl _) (by rw [HGL.out]; omega)
                  rw [HGL.out] at hid
                  have HI := Lib.hid hid
                  have HX := Lib.hid hx
                  clear hid hx
                  go_wp2_with fail
                  refine HI.out.mono ?_
                  rintro e w1' ⟨j, rfl, hji, hjf, rfl⟩
                  clear HI
                  obtain ⟨w1, rfl⟩ : ∃ w1, w1 = wr := ⟨_, rfl⟩
                  by_cases hjl : j < i
                  · have HN2 : Hid (Nest1 (fun g : List Nat => g.map natV) 47 3 w.heap.size w1 u19 (outsR G L (i + 1))) := Lib.hid (by rw [outsR_skip (hjf.1 hjl)]; exact HNO.out)
                    clear hjf HNO g_i
                    go_wp2_with fail
                    go_roundw
                    case rel => exact ⟨i + 1, by omega, by go_num, HST, HN2⟩
                    case measure => simp [intOf]; omega
                  · have HOP : Hid (outsR G L (i + 1) = outsR G L i ++ [memL G L x]) := Lib.hid (by
                      rw [← HX.out]
                      refine outsR_push ?_
                      cases hb : firstB G i with
                      | true => rfl
                      | false => exact absurd (hjf.2 hb) hjl)
                    clear hjf
                    go_wp2_with fail
                    go_loopw [21, 143] (fun v1 vk wq => ∃ k : Nat, k ≤ L ∧ vk = .int .i64 k ∧ Hid (wq.ownsRow w1.heap.size 3 1 v1 (memL G k x).length ((memL G k x).map natV)) ∧ Hid (Below w1.heap.size w1 wq)) (fun _ vk _ => L - (intOf vk).toNat)
                    case atStart => exact ⟨0, Nat.zero_le _, rfl, Lib.hid (World.ownsRow_nil _ _ _ _), Below.refl _ _⟩
                    case round =>
                      clear g_i
                      obtain ⟨k, hk, rfl, HO, HB⟩ := hrel
                      by_cases hkl : k < L
                      · have HSQ := Lib.hid (HST.out.below HB.out)
                        have g_i := HSQ.out.g_at (j := i) (by rw [HGL.out]; omega)
                        have g_k := HSQ.out.g_at (j := k) (by rw [HGL.out]; omega)
                        rw [HX.out] at g_i
                        have HMS := Lib.hid (memL_succ G k x)
                        have hml := memL_len G k x
                        obtain ⟨y, hy⟩ : ∃ y, G.getD k 0 = y := ⟨_, rfl⟩
                        rw [hy] at g_k HMS
                        clear hy
                        have hbz := HB.out.size
                        by_cases hyx : y = x
                        · have h1 : ((y : Int) == (x : Int)) = true := by rw [hyx]; simp
                          have HM2 : Hid (memL G (k + 1) x = memL G k x ++ [k]) := Lib.hid (by rw [HMS.out, if_pos hyx])
                          clear HMS hyx
                          go_wp2_with fail
                          go_quiet (fail)
                          have HOD : Hid ((wr.drewN nq).ownsRow w1.heap.size 3 1 u21 (memL G k x).length ((memL G k x).map natV)) := Lib.hid HO.out
                          have HBD := Lib.hid (below_drewN HB.out nq)
                          have hbz2 := HBD.out.size
                          clear HO HB HSQ g_i g_k
                          generalize wr.drewN nq = wd at *
                          go_wp2_with (at_builtin; refine app_new (w := wd) rfl (.tmp 155) (.tmp 157) 47 rfl 3 (.int .i64 0) 1 8 Try.underlying47 (by kernel_rfl) rfl (by decide) _ HOD.out hbz2 rfl rfl rfl (by decide) (by simp [Value.oneCell']) (by unfold maxLen; omega) (by omega) ?_; intro g4 c4 w4 HB4 HG4 HD4 HL4)
                          have HO5 : Hid (w4.ownsRow w1.heap.size 3 1 (.slice (some ⟨g4, 0, none⟩) ((memL G k x).length + 1) c4) (memL G (k + 1) x).length ((memL G (k + 1) x).map natV)) := Lib.hid (by
                            rw [HM2.out, List.length_append, List.map_append]; exact HB4.out)
                          go_roundw
                          case rel => exact ⟨k + 1, by omega, by go_num, HO5, HD4.out _ HBD.out⟩
                          case measure => simp [intOf]; omega
                        · have h1 : ((y : Int) == (x : Int)) = false := by rw [beq_eq_false_iff_ne]; omega
                          have HM2 : Hid (memL G (k + 1) x = memL G k x) := Lib.hid (by rw [HMS.out, if_neg hyx, List.append_nil])
                          clear HMS hyx
                          go_wp2_with fail
                          go_quiet (fail)
                          go_wp2_with fail
                          go_roundw
                          case rel => exact ⟨k + 1, by omega, by go_num, by rw [HM2.out]; exact HO, below_drewN HB.out _⟩
                          case measure => simp [intOf]; omega
                      · obtain rfl : k = L := by omega
                        obtain ⟨A1, c1, rfl, _, _, _⟩ := own_form HO.out
                        obtain ⟨xs, hox, hpush⟩ := Nest.open_ (by decide) HNO.out
                        have HOX := Lib.hid (own_belowU hox HB.out)
                        have HBW := Lib.hid (Nat.le_trans HST.out.bel.size HB.out.size)
                        have hol := outsR_len G k i
                        have hg0 : w1.grownBy wr none := ⟨HB.out.os, HB.out.tape, HB.out.output, HB.out.size, fun j hj _ => HB.out.block j hj⟩
                        have hu : wr.ownsRow w.heap.size 3 1 (.slice A1 (memL G k x).length c1) ((memL G k x).map natV).length ((memL G k x).map natV) := by
                          rw [List.length_map]; exact own_base HO.out HST.out.bel.size
                        have HPU := Lib.hid (fun w4 v4 h1 h2 => hpush wr w4 v4 (memL G k x) _ hg0 hu (fun g hg => (HO.out.lt g hg).1) h1 h2)
                        have HSW := Lib.hid (HST.out.below HB.out)
                        clear hox hpush hg0 hu HO HNO HST HB
                        go_wp2_with (at_builtin; refine app_new (w := wr) rfl (.tmp 160) (.tmp 162) 44 rfl 47 (.slice none 0 0) 1 24 Try.underlying44 (by kernel_rfl) rfl (by decide) _ HOX.out HBW.out rfl rfl rfl (by decide) (by simp [Value.oneCell']) (by unfold maxLen; omega) (by omega) ?_; intro g4 c4 w4 HB4 HG4 HD4 HL4)
                        have HN5 : Hid (Nest1 (fun g : List Nat => g.map natV) 47 3 w.heap.size w4 (.slice (some ⟨g4, 0, none⟩) ((outsR G k i).length + 1) c4) (outsR G k (i + 1))) := Lib.hid (by rw [HOP.out]; exact HPU.out _ _ HG4.out HB4.out)
                        have HS5 := Lib.hid (HSW.out.row HOX.out HG4.out (HD4.out _ HSW.out.bel))
                        clear HPU HSW HOX HB4 HG4 HD4 HL4
                        go_roundw
                        case rel => exact ⟨i + 1, by omega, by go_num, HS5, HN5⟩
                        case measure => simp [intOf]; omega
                · obtain rfl : i = L := by omega
                  have HPP : Hid (ClPost ls (m : Int) N D w (.returned (.tuple #[u19, .int .i64 0])) wr) := Lib.hid ⟨_, by rw [HF.out], by
                    rw [HQ.out G HGG.out]
                    have h := HNO.out
                    unfold outsR at h
                    unfold grps
                    rw [HGL.out]
                    exact h, HST.out.bel⟩
                  clear HST HNO
                  go_wp2_with fail
                  go_ret2
                  exact HPP.out
end Go.Proofs.Ytllbklnljmgppaa
