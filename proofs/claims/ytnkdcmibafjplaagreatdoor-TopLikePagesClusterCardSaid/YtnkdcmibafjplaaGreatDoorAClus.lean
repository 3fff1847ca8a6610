/-
  ephemera/alike.Clusters walked.
-/
import Derived.Test.YtnkdcmibafjplaaGreatDoorClusA
import Derived.Test.YtnkdcmibafjplaaGreatDoorMix
import Derived.Deep.RegionLaw
import Derived.Deep.RegionHeld
import Derived.Deep.QuietTactic
import Derived.BigQuiet
namespace Go.Proofs.YtnkdcmibafjplaaGreatDoor
open Go.RowKit
set_option linter.unusedVariables false
set_option linter.unusedSimpArgs false

theorem keyOf_nat (g : Nat) (h : g ≤ 1000) : keyOf Tryz.prog 3 (.int .i64 (g : Nat)) = some (.int .i64 (g : Nat)) := Maps.keyOf_int_mk Tryz.underlying3 (WalkArith.wf_i64 (by omega))
theorem texts_all {ls : List (List UInt8)} (h : ∀ t ∈ ls, t.length ≤ 20000) : textsFault (ls.map bstr) = 0 := textsFault_good (fun s hs => by
  obtain ⟨t, ht, rfl⟩ := List.mem_map.1 hs
  rw [bstr_size]; exact h t ht)
theorem texts_some {ls : List (List UInt8)} (h : ¬ ∀ t ∈ ls, t.length ≤ 20000) : textsFault (ls.map bstr) = 2 ∧ ∃ k, ∃ hk : k < ls.length, 20000 < ls[k].length := by
  have h' : ∃ t ∈ ls, 20000 < t.length := Classical.byContradiction fun hn => h fun t ht => Nat.le_of_not_lt fun hl => hn ⟨t, ht, hl⟩
  obtain ⟨t, ht, hl⟩ := h'
  obtain ⟨k, hk, rfl⟩ := List.getElem_of_mem ht
  exact ⟨textsFault_bad (k := k) (by simpa using hk) (by rw [List.getElem_map, bstr_size]; exact hl), k, hk, hl⟩
set_option maxRecDepth 100000 in
set_option maxHeartbeats 40000000 in
theorem clus_any (v : Value) (ls : List (List UInt8)) (n num den : Int) (w : World) (h : (Rp.sl Rp.str).ok w (· < w.heap.size) [v] (ls.map bstr)) :
    Calls Tryz.prog 5 #[v, .int .i64 n, .agg #[.int .i64 num, .int .i64 den]] w (ClPost ls n num den w) := by
  obtain ⟨A, c, rfl, hlc, hc, _⟩ := Rp.sl_open h
  unfold maxLen at hc
  have HK0 : Hid (Blk (w.alloc (.cells #[.int .i64 num, .int .i64 den] 24)) w.heap.size 24 [.int .i64 num, .int .i64 den]) := Lib.hid (Blk.new w _ _)
  have HB0 : Hid (Below w.heap.size w (w.alloc (.cells #[.int .i64 num, .int .i64 den] 24))) := Lib.hid ((Below.refl _ _).alloc (Nat.le_refl _) _)
  have H := Lib.hid (Rp.below _ h HB0.out)
  have HW := Lib.hid h
  have HL : Hid ((ls.map bstr).length = ls.length) := Lib.hid (by rw [List.length_map])
  rw [HL.out] at hlc
  rw [HL.out] at H HW
  clear h
  rw [HL.out]
  have hzz : ∀ (f : Int), clF ls n num den = f → f ≠ 0 → Hid (ClPost ls n num den w (.returned (.tuple #[.slice none 0 0, .int .i64 f])) (w.alloc (.cells #[.int .i64 num, .int .i64 den] 24))) := fun f h1 h2 => Lib.hid (cl_bad h1 h2 HB0.out)
  have HZZ := Lib.hid hzz
  clear hzz
  go_enter Tryz.func5, Tryz.ntmps5
  go_wp2_with fail
  refine (checkTexts_any _ _ _ _ H.out).mono ?_
  rintro e w1 ⟨rfl, rfl⟩
  by_cases hT : ∀ t ∈ ls, t.length ≤ 20000
  case neg =>
    obtain ⟨h1, k, hk, hkl⟩ := texts_some hT
    rw [h1]
    have HF := HZZ.out 2 (clF_long hk hkl) (by decide)
    clear hT h1 hk hkl
    go_wp2_with fail
    go_ret2
    exact HF.out
  rw [texts_all hT]
  have HT := Lib.hid hT
  clear hT
  by_cases hm : 60 < ls.length
  · have HF := HZZ.out 2 (clF_many HT.out hm) (by decide)
    go_wp2_with fail
    go_ret2
    exact HF.out
  have HFR := Lib.hid (clF_range (n := n) (num := num) (den := den) HT.out (by omega))
  have hm60 : ls.length ≤ 60 := by omega
  clear hm
  have k0 : _ = some (Value.int .i64 num) := HK0.out.cell 0
  have k1 : _ = some (Value.int .i64 den) := HK0.out.cell 1
  go_wp2_with fail
  refine (isShingle_any n _).mono ?_
  rintro e w1 ⟨rfl, rfl⟩
  cases q1 : isSh n with
  | false =>
    have HF := HZZ.out 1 (by rw [HFR.out, rtB_1 q1]; rfl) (by decide)
    clear q1
    go_wp2_with fail
    go_ret2
    exact HF.out
  | true =>
  by_cases q2 : 1 ≤ den ∧ den ≤ 1000000
  case neg =>
    have HF := HZZ.out 1 (by rw [HFR.out, rtB_2 (decide_eq_false q2)]; rfl) (by decide)
    by_cases q4 : den < 1
    · clear q2 q1
      go_wp2_with fail
      go_ret2
      exact HF.out
    · have q5 : 1000000 < den := by omega
      clear q2 q1
      go_wp2_with fail
      go_ret2
      exact HF.out
  by_cases q3 : 0 ≤ num ∧ num ≤ den
  case neg =>
    have HF := HZZ.out 1 (by rw [HFR.out, rtB_3 (decide_eq_false q3)]; rfl) (by decide)
    obtain ⟨q6, q7⟩ := q2
    have q6 : ¬ den < 1 := by omega
    have q7 : ¬ 1000000 < den := by omega
    by_cases q4 : num < 0
    · clear q3 q1
      go_wp2_with fail
      go_ret2
      exact HF.out
    · have q5 : den < num := by omega
      clear q3 q1
      go_wp2_with fail
      go_ret2
      exact HF.out
  have HF : Hid (clF ls n num den = 0) := Lib.hid (by rw [HFR.out, if_pos (by unfold rtB; rw [q1, decide_eq_true q2, decide_eq_true q3]; rfl)])
  have b1 : 1 ≤ n ∧ n ≤ 10 := of_decide_eq_true q1
  obtain ⟨b2, b4⟩ := q2
  obtain ⟨b3, b5⟩ := q3
  clear q1 HFR HZZ
  obtain ⟨m, rfl⟩ := Int.eq_ofNat_of_zero_le (show 0 ≤ n by omega)
  obtain ⟨N, rfl⟩ := Int.eq_ofNat_of_zero_le (show 0 ≤ num by omega)
  obtain ⟨D, rfl⟩ := Int.eq_ofNat_of_zero_le (show 0 ≤ den by omega)
  obtain ⟨L, hL⟩ : ∃ L, ls.length = L := ⟨_, rfl⟩
  rw [hL] at hlc H HW hm60 ⊢
  have hmk := fun w => run_make1R (P := Tryz.prog) w 35 3 (.int .i64 0) 8 Tryz.underlying35 (by kernel_rfl) rfl L (by omega) (by omega)
  have HLL := Lib.hid hL
  have z1 : ¬ (D : Int) < 1 := by omega
  have z2 : ¬ (1000000 : Int) < (D : Int) := by omega
  have z3 : ¬ (N : Int) < 0 := by omega
  have z4 : ¬ (D : Int) < (N : Int) := by omega
  clear hL
  go_wp2_with fail
  have y4 : decide (D < N) = false := decide_eq_false (by omega)
  rw [y4]
  simp only [Bool.or_false]
  clear z1 z2 z3 z4 k0 k1 y4
  have HST0 := Lib.hid (ClSt.start N D L w)
  obtain ⟨gb, hgb⟩ : ∃ gb, gb = w.heap.size + 1 := ⟨_, rfl⟩
  rw [← hgb] at HST0 ⊢
  have HGB := Lib.hid hgb
  clear hgb
  have hok := clF_good HF.out
  have HS1 : Hid (∀ t ∈ ls, t.length ≤ 20000) := Lib.hid hok.1
  have HSO : Hid (∀ k, ((shs ls (m : Int)).getD k []).Pairwise (· < ·)) := Lib.hid (fun k => shs_sorted k)
  have HSN : Hid (∀ k, ((shs ls (m : Int)).getD k []).length ≤ 20001) := Lib.hid (fun k => shs_len hok.1 hok.2.2.1 k)
  have HSR : Hid (∀ k x, x ∈ (shs ls (m : Int)).getD k [] → 0 ≤ x ∧ x ≤ 18446744073709551615) := Lib.hid (fun k x hx => shs_range hx)
  have HSP : Hid (∀ (k : Nat) (h : k < ls.length), (shs ls (m : Int)).take (k + 1) = (shs ls (m : Int)).take k ++ [shL ls[k] m]) := Lib.hid (fun k h => by rw [take_shs h, Int.toNat_natCast])
  have HSL : Hid ((shs ls (m : Int)).length = L) := Lib.hid (by rw [shs_length, HLL.out])
  have HQ : Hid (∀ G, gR (alS N D (shs ls (m : Int))) L L = G → clO ls (m : Int) N D = grps G) := Lib.hid (fun G hG => by
    unfold clO clG; rw [if_pos HF.out, HLL.out, Int.toNat_natCast, Int.toNat_natCast, hG])
  clear hok
  generalize shs ls (m : Int) = S at *
  have HST0 : Hid (ClSt N D (S.take 0) (.slice none 0 0) gb (gA (alS N D S) L 0) w ((w.alloc (.cells #[.int .i64 N, .int .i64 D] 24)).alloc (.cells (List.replicate L (.int .i64 0)).toArray 3))) := Lib.hid (by
    have h := HST0.out
    rw [show base0 L 0 = gA (alS N D S) L 0 from by simp [base0, gA]] at h
    exact h)
  go_loopw [10, 60] (fun va vi wr => ∃ i : Nat, i ≤ L ∧ vi = .int .i64 i ∧ Hid (ClSt N D (S.take i) va gb (gA (alS N D S) L i) w wr)) (fun _ vi _ => L - (intOf vi).toNat)
  case atStart => exact ⟨0, Nat.zero_le _, rfl, HST0⟩
  case round =>
    clear HST0
    obtain ⟨i, hi, rfl, HST⟩ := hrel
    by_cases hiL : i < L
    · obtain ⟨ad, u, rfl, _, hu, hcell⟩ := Rp.sl_at1 rfl (Rp.below _ HW.out HST.out.bel) (k := i) (by rw [HL.out, HLL.out]; exact hiL)
      obtain ⟨hu1, hu2⟩ := hu
      injection hu1 with hu1
      rw [List.getElem_map] at hu1 hu2
      subst hu1
      have ht := HS1.out _ (List.getElem_mem (show i < ls.length by rw [HLL.out]; exact hiL))
      have HP := Lib.hid (HSP.out i (by rw [HLL.out]; exact hiL))
      generalize ls[i]'_ = t at *
      have gc := HST.out.g_at (j := i) (by rw [gA_len]; exact hiL)
      have gf := HST.out.kg.frozen i
      have HSG : Hid (ClSt N D (S.take i) _ gb ((gA (alS N D S) L i).set i i) w (wr.setCell ⟨gb, i, none⟩ (.int .i64 (i : Nat)))) := Lib.hid (HST.out.setG i i)
      clear HST
      go_wp2_with fail
      clear gc gf hcell
      generalize wr.setCell ⟨gb, i, none⟩ (.int .i64 (i : Nat)) = ws at *
      refine (shingles_any t m ws ht (by omega) (by omega)).mono ?_
      rintro e w2 ⟨u, rfl, hO, hb⟩
      obtain ⟨A2, c2, rfl, _, _, _⟩ := own_form hO
      obtain ⟨xs, hox, hpush⟩ := HSG.out.open_
      have HKL : Hid ((S.take i).length = i) := Lib.hid (by rw [List.length_take, HSL.out]; omega)
      have HOX := Lib.hid (own_belowU hox hb)
      have HBW := Lib.hid (HSG.out.below hb).bel.size
      have HU := Lib.hid (hpush w2)
      have HOU := Lib.hid hO
      have HBB := Lib.hid hb
      clear hO hb hox hpush HSG
      go_wp2_with (at_builtin; refine app_new (w := w2) rfl (.tmp 69) (.tmp 73) 73 rfl 74 (.slice none 0 0) 1 24 Tryz.underlying73 (by kernel_rfl) rfl (by decide) _ HOX.out HBW.out rfl rfl rfl (by decide) (by simp [Value.oneCell']) (by rw [HKL.out]; unfold maxLen; omega) (by rw [HKL.out]; omega) ?_; intro g4 c4 w4 HB4 HG4 HD4 HL4; have HS4 := Lib.hid (HU.out w4 _ _ _ HBB.out HOU.out HG4.out HD4.out HB4.out); clear HB4 HG4 HD4 HL4 HU HOU HBB HOX)
      have HSI := HS4
      rw [← HP.out, HKL.out] at HSI
      have HTL : Hid ((S.take (i + 1)).length = i + 1) := Lib.hid (by rw [List.length_take, HSL.out]; omega)
      have HTG : Hid (∀ k, k < i + 1 → (S.take (i + 1)).getD k [] = S.getD k []) := Lib.hid (fun k hk => by rw [take_getD, if_pos hk])
      have HTO : Hid (∀ k, ((S.take (i + 1)).getD k []).Pairwise (· < ·)) := Lib.hid (fun k => by
        rw [take_getD]; split
        · exact HSO.out k
        · exact List.Pairwise.nil)
      have HTN : Hid (∀ k, ((S.take (i + 1)).getD k []).length ≤ 20001) := Lib.hid (fun k => by
        rw [take_getD]; split
        · exact HSN.out k
        · exact Nat.zero_le _)
      have HTR : Hid (∀ k x, x ∈ (S.take (i + 1)).getD k [] → 0 ≤ x ∧ x ≤ 18446744073709551615) := Lib.hid (fun k x hx => by
        rw [take_getD] at hx
        split at hx
        · exact HSR.out k x hx
        · cases hx)
      obtain ⟨T, hT⟩ : ∃ T, T = S.take (i + 1) := ⟨_, rfl⟩
      rw [← hT] at HTL HTG HTO HTN HTR HSI
      have HTS := Lib.hid hT.symm
      have hml : min i S.length = i := by rw [HSL.out]; omega
      (try rw [hml])
      clear hT HS4 HKL HBW HP hml
      obtain ⟨vT, hvT⟩ : ∃ vT, vT = Value.slice (some ⟨g4, 0, none⟩) (i + 1) c4 := ⟨_, rfl⟩
      rw [← hvT] at HSI ⊢
      clear hvT
      go_loopw [76] (fun vk wr => ∃ k : Nat, k ≤ i ∧ vk = .int .i64 k ∧ Hid (ClSt N D T vT gb (inA (alS N D S) i k ((gA (alS N D S) L i).set i i)) w wr)) (fun vk _ => i - (intOf vk).toNat)
      case atStart => exact ⟨0, Nat.zero_le _, rfl, HSI⟩
      case round =>
        clear HSI
        obtain ⟨k, hk, rfl, HST⟩ := hrel
        by_cases hki : k < i
        · have HTWM := Lib.hid (two_mid (alS N D S) L i k hiL (by omega))
          obtain ⟨G, hG⟩ : ∃ G, inA (alS N D S) i k ((gA (alS N D S) L i).set i i) = G := ⟨_, rfl⟩
          have HGL : Hid (G.length = L) := Lib.hid (by rw [← hG]; exact HTWM.out.la)
          have HLW : Hid (∀ p, p < i + 1 → G.getD p 0 ≤ p) := Lib.hid (by rw [← hG]; exact HTWM.out.low)
          have HZW : Hid (∀ p, i + 1 ≤ p → G.getD p 0 = 0) := Lib.hid (by rw [← hG]; exact HTWM.out.zero)
          have HGG := Lib.hid hG
          rw [hG] at HST
          clear hG HTWM
          obtain ⟨x, y, hxy⟩ : ∃ x y : Nat, resQ (T.getD i []) (T.getD k []) = (x, y) := ⟨_, _, rfl⟩
          have HXY := Lib.hid hxy
          have HAL : Hid (alS N D S i k = decide (N * y ≤ x * D)) := Lib.hid (by unfold alS alB; rw [← HTG.out i (by omega), ← HTG.out k (by omega), hxy])
          have hxs := resQ_small (HTN.out i) (HTN.out k)
          rw [hxy] at hxs
          obtain ⟨hx1, hy1⟩ := hxs
          have hx1 : x ≤ 40002 := hx1
          have hy1 : y ≤ 40002 := hy1
          have m1 : x * D ≤ 40002 * 1000000 := Nat.mul_le_mul hx1 (by omega)
          have m2 : N * y ≤ 1000000 * 40002 := Nat.mul_le_mul (by omega) hy1
          have i1 : IntKind.i64.wrap ((x : Int) * (D : Int)) = (x : Int) * (D : Int) := IntWalk.i64_in _ (by rw [← Int.natCast_mul]; omega)
          have i2 : IntKind.i64.wrap ((N : Int) * (y : Int)) = (N : Int) * (y : Int) := IntWalk.i64_in _ (by rw [← Int.natCast_mul]; omega)
          clear hxy m1 m2
          obtain ⟨ga, ca, ui, hva, hci, hoi⟩ := HST.out.s_at (k := i) (by rw [HTL.out]; omega)
          obtain ⟨ga2, ca2, uk, hva2, hck, hok⟩ := HST.out.s_at (k := k) (by rw [HTL.out]; omega)
          rw [HTL.out] at hva hva2
          subst hva
          injection hva2 with hva2 _ hca
          injection hva2 with hva2
          injection hva2 with hva2
          subst hva2 hca
          have hgl : ga < wr.heap.size := by simpa using World.block_lt_of_cell? wr _ hci
          have KEEP : Hid (∀ w', Below wr.heap.size wr w' → w'.cell? ⟨ga, i, none⟩ = some ui ∧ w'.cell? ⟨ga, k, none⟩ = some uk) := Lib.hid (fun w' hb => ⟨((same_below hb).cell (a := ⟨ga, i, none⟩) hgl).trans hci, ((same_below hb).cell (a := ⟨ga, k, none⟩) hgl).trans hck⟩)
          have HOI := Lib.hid (row_read hoi (HTR.out i))
          have HOK := Lib.hid (row_read hok (HTR.out k))
          clear hci hck hoi hok hgl
          have hil : (i : Int) < (i : Int) + 1 := by omega
          have hkl : (k : Int) < (i : Int) + 1 := by omega
          go_wp2_with fail
          refine wp_region_held_drew (S := fun w' => w'.cell? ⟨ga, i, none⟩ = some ui ∧ w'.cell? ⟨ga, k, none⟩ = some uk) (by kernel_rfl) (KEEP.out _ (Below.drew (Below.refl _ _))) (fun hHeld => ?_)
          obtain ⟨wq, hwq⟩ : ∃ wq, wq = World.drew wr := ⟨_, rfl⟩
          have HG0 : Hid (Below wr.heap.size wr wq) := Lib.hid (by rw [hwq]; exact Below.drew (Below.refl _ _))
          rw [← hwq] at hHeld ⊢
          clear hwq
          have HQI := Lib.hid (Rp.ext _ HOI.out HG0.out)
          have HQK := Lib.hid (Rp.ext _ HOK.out HG0.out)
          have HSQ := Lib.hid (HST.out.below HG0.out)
          clear HST HOI HOK
          refine wpAnyH_take (i := 0) (v := ?_) rfl (by kernel_rfl) (by kernel_rfl) (by kernel_rfl) (fun _ _ _ h => h) (Or.inl ⟨by rfl, ?_⟩) (by assumption) ?_
          rotate_left
          · (intro w hSw; (try dsimp only at hSw); go_simp; try with_reducible rfl)
          try simp only [List.getElem_toArray, List.getElem_cons_succ, List.getElem_cons_zero, Act.put, List.setIfInBounds_toArray, List.set_cons_zero, List.set_cons_succ]
          refine wpAnyH_take (i := 1) (v := ?_) rfl (by kernel_rfl) (by kernel_rfl) (by kernel_rfl) (fun _ _ _ h => h) (Or.inl ⟨by rfl, ?_⟩) (by assumption) ?_
          rotate_left
          · (intro w hSw; (try dsimp only at hSw); go_simp; try with_reducible rfl)
          try simp only [List.getElem_toArray, List.getElem_cons_succ, List.getElem_cons_zero, Act.put, List.setIfInBounds_toArray, List.set_cons_zero, List.set_cons_succ]
          refine wpAnyH_take (i := 2) (v := ?_) rfl (by kernel_rfl) (by kernel_rfl) (by kernel_rfl) (fun _ _ _ h => h) (Or.inl ⟨by rfl, ?_⟩) (by assumption) ?_
          rotate_left
          · (intro w hSw; (try dsimp only at hSw); go_simp; try with_reducible rfl)
          try simp only [List.getElem_toArray, List.getElem_cons_succ, List.getElem_cons_zero, Act.put, List.setIfInBounds_toArray, List.set_cons_zero, List.set_cons_succ]
          refine wpAnyH_take (i := 3) (v := ?_) rfl (by kernel_rfl) (by kernel_rfl) (by kernel_rfl) (fun _ _ _ h => h) (Or.inl ⟨by rfl, ?_⟩) (by assumption) ?_
          rotate_left
          · (intro w hSw; (try dsimp only at hSw); go_simp; try with_reducible rfl)
          try simp only [List.getElem_toArray, List.getElem_cons_succ, List.getElem_cons_zero, Act.put, List.setIfInBounds_toArray, List.set_cons_zero, List.set_cons_succ]
          refine wpAnyH_take (i := 4) (v := ?_) rfl (by kernel_rfl) (by kernel_rfl) (by kernel_rfl) (fun _ _ _ h => h) (Or.inl ⟨by rfl, ?_⟩) (by assumption) ?_
          rotate_left
          · (intro w hSw; (try dsimp only at hSw); go_simp; try with_reducible rfl)
          try simp only [List.getElem_toArray, List.getElem_cons_succ, List.getElem_cons_zero, Act.put, List.setIfInBounds_toArray, List.set_cons_zero, List.set_cons_succ]
          refine wpAnyH_take (i := 5) (v := ?_) rfl (by kernel_rfl) (by kernel_rfl) (by kernel_rfl) (fun _ _ _ h => h) (Or.inl ⟨by rfl, ?_⟩) (by assumption) ?_
          rotate_left
          · (intro w hSw; (try dsimp only at hSw); go_simp; try with_reducible rfl)
          try simp only [List.getElem_toArray, List.getElem_cons_succ, List.getElem_cons_zero, Act.put, List.setIfInBounds_toArray, List.set_cons_zero, List.set_cons_succ]
          refine wpAnyH_take (i := 6) (v := ?_) rfl (by kernel_rfl) (by kernel_rfl) (by kernel_rfl) (fun _ _ _ h => h) (Or.inl ⟨by rfl, ?_⟩) (by assumption) ?_
          rotate_left
          · (intro w hSw; (try dsimp only at hSw); go_simp; try with_reducible rfl)
          try simp only [List.getElem_toArray, List.getElem_cons_succ, List.getElem_cons_zero, Act.put, List.setIfInBounds_toArray, List.set_cons_zero, List.set_cons_succ]
          refine wpAnyH_take (i := 7) (v := ?_) rfl (by kernel_rfl) (by kernel_rfl) (by kernel_rfl) (fun _ _ _ h => h) (Or.inl ⟨by rfl, ?_⟩) (by assumption) ?_
          rotate_left
          · (intro w hSw; (try dsimp only at hSw); go_simp; try with_reducible rfl)
          try simp only [List.getElem_toArray, List.getElem_cons_succ, List.getElem_cons_zero, Act.put, List.setIfInBounds_toArray, List.set_cons_zero, List.set_cons_succ]
          refine wpAnyH_ready (rs := [8, 9]) (by kernel_rfl) (by simp) ?_
          refine AllReadyH.cons rfl (fun K hK => ?_) (AllReadyH.cons rfl (fun K hK => ?_) AllReadyH.nil)
          · rw [if_pos (by rfl)]
            simp only [List.getElem_toArray, List.getElem_cons_succ, List.getElem_cons_zero]
            go_simp
            go_at_call 19
            refine (resem_any _ _ _ _ wq HQI.out HQK.out (HTO.out i) (HTO.out k) (Nat.le_trans (HTN.out i) (by decide)) (Nat.le_trans (HTN.out k) (by decide))).mono ?_
            rintro e w5 ⟨rfl, hb5⟩
            rw [HXY.out, show pairV (x, y) = .agg #[.int .i64 (x : Nat), .int .i64 (y : Nat)] from rfl]
            have HB5 := Lib.hid (HG0.out.trans (hb5.mono HG0.out.size))
            have HS5 := Lib.hid (HSQ.out.below hb5)
            clear hb5 HSQ HQI HQK
            show K _ w5
            refine hK.out _ _ (KEEP.out _ HB5.out) (fun hHeld => ?_)
            clear hK K
            try simp only [List.getElem_toArray, List.getElem_cons_succ, List.getElem_cons_zero, Act.put, List.setIfInBounds_toArray, List.set_cons_zero, List.set_cons_succ]
            refine wpAnyH_ready (rs := [9]) (by kernel_rfl) (by simp) ?_
            refine AllReadyH.cons rfl (fun K hK => ?_) AllReadyH.nil
            rw [if_pos (by rfl)]
            simp only [List.getElem_toArray, List.getElem_cons_succ, List.getElem_cons_zero]
            go_simp
            refine hK.out _ _ (KEEP.out _ (HB5.out.alloc HB5.out.size _)) (fun hHeld => ?_)
            clear hK K
            try simp only [List.getElem_toArray, List.getElem_cons_succ, List.getElem_cons_zero, Act.put, List.setIfInBounds_toArray, List.set_cons_zero, List.set_cons_succ]
            refine wpAnyH_ready (rs := [10]) (by kernel_rfl) (by simp) ?_
            refine AllReadyH.cons rfl (fun K hK => ?_) AllReadyH.nil
            rw [if_pos (by rfl)]
            simp only [List.getElem_toArray, List.getElem_cons_succ, List.getElem_cons_zero]
            go_simp
            refine hK.out _ _ (KEEP.out _ (HB5.out.alloc HB5.out.size _)) (fun hHeld => ?_)
            clear hK K hHeld
            try simp only [List.getElem_toArray, List.getElem_cons_succ, List.getElem_cons_zero, Act.put, List.setIfInBounds_toArray, List.set_cons_zero, List.set_cons_succ]
            refine wpAnyH_done (by kernel_rfl) ?_ _
            have HSZ := Lib.hid (HS5.out.alloc (.cells #[.int .i64 x, .int .i64 y] 24))
            have HRZ := Lib.hid (Blk.new w5 24 [.int .i64 (x : Nat), .int .i64 (y : Nat)])
            clear HS5 HB5 KEEP HG0
            generalize w5.alloc (.cells #[.int .i64 x, .int .i64 y] 24) = wz at *
            generalize w5.heap.size = rb at *
            have hrl := HSZ.out.kl.cell 0
            have hrd := HSZ.out.kl.cell 1
            have r0 : _ = some (Value.int .i64 x) := HRZ.out.cell 0
            have r1 : _ = some (Value.int .i64 y) := HRZ.out.cell 1
            have hrl : _ = some (Value.int .i64 N) := hrl
            have hrd : _ = some (Value.int .i64 D) := hrd
            have g_i := HSZ.out.g_at (j := i) (by rw [HGL.out]; omega)
            have g_k := HSZ.out.g_at (j := k) (by rw [HGL.out]; omega)
            have hil3 : (i : Int) < (L : Int) := by omega
            have hkl3 : (k : Int) < (L : Int) := by omega
            obtain ⟨p, hp⟩ : ∃ p, G.getD i 0 = p := ⟨_, rfl⟩
            obtain ⟨q, hq⟩ : ∃ q, G.getD k 0 = q := ⟨_, rfl⟩
            rw [hp] at g_i
            rw [hq] at g_k
            have HPQ := Lib.hid (And.intro hp hq)
            have hpl : p ≤ 60 := by rw [← hp]; exact Nat.le_trans (HLW.out i (by omega)) (by omega)
            have hql : q ≤ 60 := by rw [← hq]; exact Nat.le_trans (HLW.out k (by omega)) (by omega)
            clear hp hq
            by_cases hal : N * y ≤ x * D
            · have HM : Hid (mgA (alS N D S) i k G = if p = q then G else rel1 (max p q) (min p q) G) := Lib.hid (by
                unfold mgA
                rw [HAL.out, decide_eq_true hal, HPQ.out.1, HPQ.out.2]; simp)
              have hd : decide ((x : Int) * (D : Int) < (N : Int) * (y : Int)) = false := decide_eq_false (by rw [← Int.natCast_mul, ← Int.natCast_mul]; omega)
              clear hal
              by_cases hpq : p = q
              · have HM2 : Hid (mgA (alS N D S) i k G = G) := Lib.hid (by rw [HM.out, if_pos hpq])
                have heq : ((p : Int) == (q : Int)) = true := by rw [hpq]; simp
                clear hpq HM
                go_wp2_with fail
                go_quiet (fail)
                have HSD := Lib.hid (HSZ.out.drewN nq)
                clear HSZ HRZ r0 r1 hrl hrd g_i g_k
                generalize wz.drewN nq = wd at *
                go_wp2_with fail
                go_roundw
                case rel => exact ⟨k + 1, by omega, by go_num, by show Hid (ClSt N D T (.slice (some ⟨ga, 0, none⟩) (i + 1) ca) gb (mgA (alS N D S) i k (inA (alS N D S) i k ((gA (alS N D S) L i).set i i))) w _); rw [HGG.out, HM2.out]; exact HSD⟩
                case measure => simp [intOf]; omega
              · have heq : ((p : Int) == (q : Int)) = false := by rw [beq_eq_false_iff_ne]; omega
                have HM2 : Hid (mgA (alS N D S) i k G = rel1 (max p q) (min p q) G) := Lib.hid (by rw [HM.out, if_neg hpq])
                obtain ⟨f, hf⟩ : ∃ f, max p q = f := ⟨_, rfl⟩
                obtain ⟨t, ht⟩ : ∃ t, min p q = t := ⟨_, rfl⟩
                rw [hf, ht] at HM2
                have hmx : max (p : Int) (q : Int) = (f : Int) := by omega
                have hmn : min (p : Int) (q : Int) = (t : Int) := by omega
                have hf0 : 0 < f := by omega
                have HTAIL : Hid (relP f t G (i + 1) = rel1 f t G) := Lib.hid (relP_tail HZW.out hf0)
                clear hpq HM hf ht hf0
                go_wp2_with fail
                go_quiet (fail)
                have HSD := Lib.hid (HSZ.out.drewN nq)
                have g_i : (wz.drewN nq).cell? ⟨gb, i, none⟩ = some (.int .i64 (p : Nat)) := g_i
                have g_k : (wz.drewN nq).cell? ⟨gb, k, none⟩ = some (.int .i64 (q : Nat)) := g_k
                clear HSZ HRZ r0 r1 hrl hrd
                generalize wz.drewN nq = wd at *
                go_wp2_with fail
                go_quiet (fail)
                have HSE := Lib.hid (HSD.out.drewN nq)
                clear HSD g_i g_k hmx hmn heq hd
                generalize wd.drewN nq = we at *
                go_wp2_with fail
                go_loopw [130] (fun vz wy => ∃ z : Nat, z ≤ i + 1 ∧ vz = .int .i64 z ∧ Hid (ClSt N D T (.slice (some ⟨ga, 0, none⟩) (i + 1) ca) gb (relP f t G z) w wy)) (fun vz _ => i + 1 - (intOf vz).toNat)
                case atStart => exact ⟨0, Nat.zero_le _, rfl, by rw [relP_zero]; exact HSE⟩
                case round =>
                  clear HSE
                  obtain ⟨z, hz, rfl, HSY⟩ := hrel
                  by_cases hzl : z < i + 1
                  · have g_z := HSY.out.g_at (j := z) (by rw [relP_len, HGL.out]; omega)
                    rw [relP_at (by rw [HGL.out]; omega), if_neg (by omega)] at g_z
                    have hfz := HSY.out.kg.frozen z
                    obtain ⟨u, hu⟩ : ∃ u, G.getD z 0 = u := ⟨_, rfl⟩
                    rw [hu] at g_z
                    by_cases hqf : u = f
                    · have h1 : ((u : Int) == (f : Int)) = true := by rw [hqf]; simp
                      have HSX : Hid (ClSt N D T (.slice (some ⟨ga, 0, none⟩) (i + 1) ca) gb (relP f t G (z + 1)) w (wr.setCell ⟨gb, z, none⟩ (.int .i64 t))) := Lib.hid (by rw [← relP_set (by rw [HGL.out]; omega) (hu.trans hqf)]; exact HSY.out.setG z t)
                      clear hu hqf HSY
                      go_wp2_with fail
                      go_roundw
                      case rel => exact ⟨z + 1, by omega, by go_num, HSX⟩
                      case measure => simp [intOf]; omega
                    · have h1 : ((u : Int) == (f : Int)) = false := by rw [beq_eq_false_iff_ne]; omega
                      have HSX : Hid (ClSt N D T (.slice (some ⟨ga, 0, none⟩) (i + 1) ca) gb (relP f t G (z + 1)) w wr) := Lib.hid (by rw [← relP_skip (by rw [HGL.out]; omega) (fun e => hqf (hu.symm.trans e))]; exact HSY.out)
                      clear hu hqf HSY
                      go_wp2_with fail
                      go_roundw
                      case rel => exact ⟨z + 1, by omega, by go_num, HSX⟩
                      case measure => simp [intOf]; omega
                  · obtain rfl : z = i + 1 := by omega
                    rw [HTAIL.out, ← HM2.out] at HSY
                    go_wp2_with fail
                    go_roundw
                    case rel => exact ⟨k + 1, by omega, by go_num, by show Hid (ClSt N D T (.slice (some ⟨ga, 0, none⟩) (i + 1) ca) gb (mgA (alS N D S) i k (inA (alS N D S) i k ((gA (alS N D S) L i).set i i))) w _); rw [HGG.out]; exact HSY⟩
                    case measure => simp [intOf]; omega
            · have HM2 : Hid (mgA (alS N D S) i k G = G) := Lib.hid (if_pos (.inl (by rw [HAL.out]; exact decide_eq_false hal)))
              have hd : decide ((x : Int) * (D : Int) < (N : Int) * (y : Int)) = true := decide_eq_true (by rw [← Int.natCast_mul, ← Int.natCast_mul]; omega)
              clear hal
              go_wp2_with fail
              go_quiet (fail)
              have HSD := Lib.hid (HSZ.out.drewN nq)
              clear HSZ HRZ r0 r1 hrl hrd g_i g_k
              generalize wz.drewN nq = wd at *
              go_wp2_with fail
              go_roundw
              case rel => exact ⟨k + 1, by omega, by go_num, by show Hid (ClSt N D T (.slice (some ⟨ga, 0, none⟩) (i + 1) ca) gb (mgA (alS N D S) i k (inA (alS N D S) i k ((gA (alS N D S) L i).set i i))) w _); rw [HGG.out, HM2.out]; exact HSD⟩
              case measure => simp [intOf]; omega
          · rw [if_pos (by rfl)]
            simp only [List.getElem_toArray, List.getElem_cons_succ, List.getElem_cons_zero]
            go_simp
            have HBA := Lib.hid (HG0.out.alloc HG0.out.size (.cells #[.int .i64 0, .int .i64 0] 24))
            refine hK.out _ _ (KEEP.out _ HBA.out) (fun hHeld => ?_)
            clear hK K
            try simp only [List.getElem_toArray, List.getElem_cons_succ, List.getElem_cons_zero, Act.put, List.setIfInBounds_toArray, List.set_cons_zero, List.set_cons_succ]
            have HSA := Lib.hid (HSQ.out.alloc (.cells #[.int .i64 0, .int .i64 0] 24))
            have HRA := Lib.hid (Blk.new wq 24 [.int .i64 0, .int .i64 0])
            have hba := (Below.refl wq.heap.size wq).alloc (Nat.le_refl _) (.cells #[.int .i64 0, .int .i64 0] 24)
            have HQI2 := Lib.hid (Rp.ext _ HQI.out hba)
            have HQK2 := Lib.hid (Rp.ext _ HQK.out hba)
            have hrb : wr.heap.size ≤ wq.heap.size := HG0.out.size
            have hrb2 : w.heap.size < wq.heap.size := HSQ.out.kl.lt
            clear hba HQI HQK HSQ
            generalize hwa : wq.alloc (.cells #[.int .i64 0, .int .i64 0] 24) = wa at *
            generalize wq.heap.size = rb at *
            clear hwa
            refine wpAnyH_ready (rs := [8]) (by kernel_rfl) (by simp) ?_
            refine AllReadyH.cons rfl (fun K hK => ?_) AllReadyH.nil
            rw [if_pos (by rfl)]
            simp only [List.getElem_toArray, List.getElem_cons_succ, List.getElem_cons_zero]
            go_simp
            go_at_call 19
            refine (resem_any _ _ _ _ wa HQI2.out HQK2.out (HTO.out i) (HTO.out k) (Nat.le_trans (HTN.out i) (by decide)) (Nat.le_trans (HTN.out k) (by decide))).mono ?_
            rintro e w5 ⟨rfl, hb5⟩
            rw [HXY.out, show pairV (x, y) = .agg #[.int .i64 (x : Nat), .int .i64 (y : Nat)] from rfl]
            have HB5 := Lib.hid (HBA.out.trans (hb5.mono HBA.out.size))
            have HS5 := Lib.hid (HSA.out.below hb5)
            have hr5 := HRA.out.same (same_below hb5) HRA.out.lt
            have c0 : _ = some (Value.int .i64 0) := hr5.cell 0
            have c1 : _ = some (Value.int .i64 0) := hr5.cell 1
            have y0 := hr5.frozen 0
            have y1 := hr5.frozen 1
            have HR5 := Lib.hid hr5
            clear hb5 HSA HQI2 HQK2 hr5 HRA
            show K _ w5
            refine hK.out _ _ (KEEP.out _ HB5.out) (fun hHeld => ?_)
            clear hK K
            try simp only [List.getElem_toArray, List.getElem_cons_succ, List.getElem_cons_zero, Act.put, List.setIfInBounds_toArray, List.set_cons_zero, List.set_cons_succ]
            refine wpAnyH_ready (rs := [10]) (by kernel_rfl) (by simp) ?_
            refine AllReadyH.cons rfl (fun K hK => ?_) AllReadyH.nil
            rw [if_pos (by rfl)]
            simp only [List.getElem_toArray, List.getElem_cons_succ, List.getElem_cons_zero]
            go_simp
            refine hK.out _ _ (KEEP.out _ ((HB5.out.setCell (p := ⟨rb, 0, none⟩) hrb (.int .i64 x)).setCell (p := ⟨rb, 1, none⟩) hrb (.int .i64 y))) (fun hHeld => ?_)
            clear hK K hHeld c0 c1 y0 y1
            try simp only [List.getElem_toArray, List.getElem_cons_succ, List.getElem_cons_zero, Act.put, List.setIfInBounds_toArray, List.set_cons_zero, List.set_cons_succ]
            refine wpAnyH_done (by kernel_rfl) ?_ _
            have HSZ := Lib.hid ((HS5.out.setB HR5.out hrb2 0 (.int .i64 x)).setB (HR5.out.set_ 0 (.int .i64 x)) hrb2 1 (.int .i64 y))
            have HRZ := Lib.hid ((HR5.out.set_ 0 (.int .i64 x)).set_ 1 (.int .i64 y))
            clear HS5 HB5 KEEP HG0 HBA HR5
            generalize (w5.setCell ⟨rb, 0, none⟩ (.int .i64 x)).setCell ⟨rb, 1, none⟩ (.int .i64 y) = wz at *
            have hrl := HSZ.out.kl.cell 0
            have hrd := HSZ.out.kl.cell 1
            have r0 : _ = some (Value.int .i64 x) := HRZ.out.cell 0
            have r1 : _ = some (Value.int .i64 y) := HRZ.out.cell 1
            have hrl : _ = some (Value.int .i64 N) := hrl
            have hrd : _ = some (Value.int .i64 D) := hrd
            have g_i := HSZ.out.g_at (j := i) (by rw [HGL.out]; omega)
            have g_k := HSZ.out.g_at (j := k) (by rw [HGL.out]; omega)
            have hil3 : (i : Int) < (L : Int) := by omega
            have hkl3 : (k : Int) < (L : Int) := by omega
            obtain ⟨p, hp⟩ : ∃ p, G.getD i 0 = p := ⟨_, rfl⟩
            obtain ⟨q, hq⟩ : ∃ q, G.getD k 0 = q := ⟨_, rfl⟩
            rw [hp] at g_i
            rw [hq] at g_k
            have HPQ := Lib.hid (And.intro hp hq)
            have hpl : p ≤ 60 := by rw [← hp]; exact Nat.le_trans (HLW.out i (by omega)) (by omega)
            have hql : q ≤ 60 := by rw [← hq]; exact Nat.le_trans (HLW.out k (by omega)) (by omega)
            clear hp hq
            by_cases hal : N * y ≤ x * D
            · have HM : Hid (mgA (alS N D S) i k G = if p = q then G else rel1 (max p q) (min p q) G) := Lib.hid (by
                unfold mgA
                rw [HAL.out, decide_eq_true hal, HPQ.out.1, HPQ.out.2]; simp)
              have hd : decide ((x : Int) * (D : Int) < (N : Int) * (y : Int)) = false := decide_eq_false (by rw [← Int.natCast_mul, ← Int.natCast_mul]; omega)
              clear hal
              by_cases hpq : p = q
              · have HM2 : Hid (mgA (alS N D S) i k G = G) := Lib.hid (by rw [HM.out, if_pos hpq])
                have heq : ((p : Int) == (q : Int)) = true := by rw [hpq]; simp
                clear hpq HM
                go_wp2_with fail
                go_quiet (fail)
                have HSD := Lib.hid (HSZ.out.drewN nq)
                clear HSZ HRZ r0 r1 hrl hrd g_i g_k
                generalize wz.drewN nq = wd at *
                go_wp2_with fail
                go_roundw
                case rel => exact ⟨k + 1, by omega, by go_num, by show Hid (ClSt N D T (.slice (some ⟨ga, 0, none⟩) (i + 1) ca) gb (mgA (alS N D S) i k (inA (alS N D S) i k ((gA (alS N D S) L i).set i i))) w _); rw [HGG.out, HM2.out]; exact HSD⟩
                case measure => simp [intOf]; omega
              · have heq : ((p : Int) == (q : Int)) = false := by rw [beq_eq_false_iff_ne]; omega
                have HM2 : Hid (mgA (alS N D S) i k G = rel1 (max p q) (min p q) G) := Lib.hid (by rw [HM.out, if_neg hpq])
                obtain ⟨f, hf⟩ : ∃ f, max p q = f := ⟨_, rfl⟩
                obtain ⟨t, ht⟩ : ∃ t, min p q = t := ⟨_, rfl⟩
                rw [hf, ht] at HM2
                have hmx : max (p : Int) (q : Int) = (f : Int) := by omega
                have hmn : min (p : Int) (q : Int) = (t : Int) := by omega
                have hf0 : 0 < f := by omega
                have HTAIL : Hid (relP f t G (i + 1) = rel1 f t G) := Lib.hid (relP_tail HZW.out hf0)
                clear hpq HM hf ht hf0
                go_wp2_with fail
                go_quiet (fail)
                have HSD := Lib.hid (HSZ.out.drewN nq)
                have g_i : (wz.drewN nq).cell? ⟨gb, i, none⟩ = some (.int .i64 (p : Nat)) := g_i
                have g_k : (wz.drewN nq).cell? ⟨gb, k, none⟩ = some (.int .i64 (q : Nat)) := g_k
                clear HSZ HRZ r0 r1 hrl hrd
                generalize wz.drewN nq = wd at *
                go_wp2_with fail
                go_quiet (fail)
                have HSE := Lib.hid (HSD.out.drewN nq)
                clear HSD g_i g_k hmx hmn heq hd
                generalize wd.drewN nq = we at *
                go_wp2_with fail
                go_loopw [130] (fun vz wy => ∃ z : Nat, z ≤ i + 1 ∧ vz = .int .i64 z ∧ Hid (ClSt N D T (.slice (some ⟨ga, 0, none⟩) (i + 1) ca) gb (relP f t G z) w wy)) (fun vz _ => i + 1 - (intOf vz).toNat)
                case atStart => exact ⟨0, Nat.zero_le _, rfl, by rw [relP_zero]; exact HSE⟩
                case round =>
                  clear HSE
                  obtain ⟨z, hz, rfl, HSY⟩ := hrel
                  by_cases hzl : z < i + 1
                  · have g_z := HSY.out.g_at (j := z) (by rw [relP_len, HGL.out]; omega)
                    rw [relP_at (by rw [HGL.out]; omega), if_neg (by omega)] at g_z
                    have hfz := HSY.out.kg.frozen z
                    obtain ⟨u, hu⟩ : ∃ u, G.getD z 0 = u := ⟨_, rfl⟩
                    rw [hu] at g_z
                    by_cases hqf : u = f
                    · have h1 : ((u : Int) == (f : Int)) = true := by rw [hqf]; simp
                      have HSX : Hid (ClSt N D T (.slice (some ⟨ga, 0, none⟩) (i + 1) ca) gb (relP f t G (z + 1)) w (wr.setCell ⟨gb, z, none⟩ (.int .i64 t))) := Lib.hid (by rw [← relP_set (by rw [HGL.out]; omega) (hu.trans hqf)]; exact HSY.out.setG z t)
                      clear hu hqf HSY
                      go_wp2_with fail
                      go_roundw
                      case rel => exact ⟨z + 1, by omega, by go_num, HSX⟩
                      case measure => simp [intOf]; omega
                    · have h1 : ((u : Int) == (f : Int)) = false := by rw [beq_eq_false_iff_ne]; omega
                      have HSX : Hid (ClSt N D T (.slice (some ⟨ga, 0, none⟩) (i + 1) ca) gb (relP f t G (z + 1)) w wr) := Lib.hid (by rw [← relP_skip (by rw [HGL.out]; omega) (fun e => hqf (hu.symm.trans e))]; exact HSY.out)
                      clear hu hqf HSY
                      go_wp2_with fail
                      go_roundw
                      case rel => exact ⟨z + 1, by omega, by go_num, HSX⟩
                      case measure => simp [intOf]; omega
                  · obtain rfl : z = i + 1 := by omega
                    rw [HTAIL.out, ← HM2.out] at HSY
                    go_wp2_with fail
                    go_roundw
                    case rel => exact ⟨k + 1, by omega, by go_num, by show Hid (ClSt N D T (.slice (some ⟨ga, 0, none⟩) (i + 1) ca) gb (mgA (alS N D S) i k (inA (alS N D S) i k ((gA (alS N D S) L i).set i i))) w _); rw [HGG.out]; exact HSY⟩
                    case measure => simp [intOf]; omega
            · have HM2 : Hid (mgA (alS N D S) i k G = G) := Lib.hid (if_pos (.inl (by rw [HAL.out]; exact decide_eq_false hal)))
              have hd : decide ((x : Int) * (D : Int) < (N : Int) * (y : Int)) = true := decide_eq_true (by rw [← Int.natCast_mul, ← Int.natCast_mul]; omega)
              clear hal
              go_wp2_with fail
              go_quiet (fail)
              have HSD := Lib.hid (HSZ.out.drewN nq)
              clear HSZ HRZ r0 r1 hrl hrd g_i g_k
              generalize wz.drewN nq = wd at *
              go_wp2_with fail
              go_roundw
              case rel => exact ⟨k + 1, by omega, by go_num, by show Hid (ClSt N D T (.slice (some ⟨ga, 0, none⟩) (i + 1) ca) gb (mgA (alS N D S) i k (inA (alS N D S) i k ((gA (alS N D S) L i).set i i))) w _); rw [HGG.out, HM2.out]; exact HSD⟩
              case measure => simp [intOf]; omega
        · obtain rfl : k = i := by omega
          go_wp2_with fail
          go_roundw
          case rel => exact ⟨k + 1, by omega, by go_num, by rw [HTS.out]; exact HST⟩
          case measure => simp [intOf]; omega
    · obtain rfl : i = L := by omega
      obtain ⟨L, hLL⟩ : ∃ L, L = i := ⟨_, rfl⟩
      subst hLL
      have HTW := Lib.hid (two_all (alS N D S) L L (Nat.le_refl _))
      obtain ⟨G, hG⟩ : ∃ G, gA (alS N D S) L L = G := ⟨_, rfl⟩
      have HQQ : Hid (clO ls (m : Int) N D = outsA G L) := Lib.hid (by rw [HQ.out _ rfl, ← hG, outsA_grps HTW.out, grps_same HTW.out])
      rw [hG] at HST HTW
      clear hG HQ hiL hi
      have HKG := Lib.hid HST.out.kg
      have HBW := Lib.hid HST.out.bel
      have hgs := HST.out.kg.lt
      clear HST
      have HM0 := Lib.hid (IMap.made (P := Tryz.prog) (K := 3) (E := 3) (q := .i64) wr)
      have HBM := Lib.hid ((Below.refl wr.heap.size wr).alloc (Nat.le_refl _) (.map #[] 0))
      have hmm := @run_makeMap Tryz.prog
      obtain ⟨w5, rfl⟩ : ∃ w5, w5 = wr := ⟨_, rfl⟩
      go_wp2_with fail
      clear hmm
      go_loopw [19, 149] (fun vo vi wr => ∃ i : Nat, i ≤ L ∧ vi = .int .i64 i ∧ Hid (Below w5.heap.size w5 wr) ∧ Hid (∃ f, IMap Tryz.prog 3 3 .i64 wr w5.heap.size i f ∧ MapAt G i f) ∧ Hid (Nest1 (fun g : List Nat => g.map natV) 35 3 w5.heap.size wr vo (outsA G i))) (fun _ vi _ => L - (intOf vi).toNat)
      case atStart => exact ⟨0, Nat.zero_le _, rfl, HBM, Lib.hid ⟨_, HM0.out, fun r hr => by omega⟩, Lib.hid (Nest.nil _)⟩
      case round =>
        clear HBM HM0
        obtain ⟨i, hi, rfl, HBR, HMI, HNO⟩ := hrel
        by_cases hil : i < L
        · have hkg := HKG.out.same (same_below HBR.out) hgs
          have g_i : wr.cell? ⟨gb, i, none⟩ = some (.int .i64 ((G.getD i 0 : Nat) : Int)) := by
            rw [hkg.cell]
            simp [natV, List.getD_eq_getElem?_getD, show i < G.length from by rw [HTW.out.la]; exact hil]
          obtain ⟨g, hg⟩ : ∃ g, G.getD i 0 = g := ⟨_, rfl⟩
          obtain ⟨hf1, hf2⟩ := lab_first HTW.out hil
          rw [hg] at g_i hf1 hf2
          obtain ⟨fm, HMR0, HMP0⟩ := HMI.out
          have HMR0 := Lib.hid HMR0
          have HMP0 := Lib.hid HMP0
          have HRL : Hid ((memL G i g).length ≤ 60) := Lib.hid (Nat.le_trans (memL_len _ _ _) (by omega))
          have HGI := Lib.hid hg
          have HF1 := Lib.hid hf1
          clear hkg hg hf1 HMI
          by_cases hgi : g = i
          · have h1 : ((g : Int) == (i : Int)) = true := by rw [hgi]; simp
            subst hgi
            have hol : (outsA G g).length = pos G g := outsA_len G g
            have holi : pos G g ≤ g := reps_len G g
            obtain ⟨A3, c3, rfl, hlc3, hc3⟩ := HNO.out.form
            unfold maxLen at hc3
            rw [hol] at hlc3
            rw [hol] at HNO ⊢
            have HOLN := Lib.hid hol
            clear hol
            have HKEY := Lib.hid (keyOf_nat g (by omega))
            go_wp2_with (first
              | (at_mapUpdate; refine imap_update rfl _ _ _ 77 rfl HMR0.out (Maps.int_keyed Tryz.underlying3) Tryz.underlying77 Tryz.underlying3 (by unfold maxLen; omega) (.int .i64 (g : Nat)) rfl rfl rfl (WalkArith.wf_i64 (by omega)) HKEY.out (by trivial) ?_; intro w1 HI1 HG1
                 have HBR1 := Lib.hid (HBR.out.grown HG1.out HBR.out.size (fun g e => by injection e with e; omega))
                 have HNO1 := Lib.hid (HNO.out.notIn HG1.out (fun hr => HMR0.out.notRowC hr))
                 obtain ⟨xs, hox, hpush⟩ := Nest.open_ (by decide) HNO1.out
                 rw [HOLN.out] at hox hpush
                 have HOX := Lib.hid hox
                 have HPU := Lib.hid hpush
                 have hbz := HBR1.out.size
                 clear hox hpush HBR HNO HMR0)
              | (at_builtin; refine app_new (w := w1) rfl (.tmp 161) (.tmp 162) 25 rfl 35 (.slice none 0 0) 1 24 Tryz.underlying25 (by kernel_rfl) rfl (by decide) _ HOX.out hbz rfl rfl rfl (by decide) (by simp [Value.oneCell']) (by unfold maxLen; omega) (by omega) ?_; intro g4 c4 w4 HB4 HG4 HD4 HL4
                 obtain ⟨p, hp⟩ : ∃ p, p = pos G g := ⟨_, rfl⟩
                 have HNR0 : Hid (Nest1 (fun g : List Nat => g.map natV) 35 3 w5.heap.size w4 (.slice (some ⟨g4, 0, none⟩) (pos G g + 1) c4) (outsA G g ++ [[]])) := Lib.hid (HPU.out w1 w4 _ [] (.slice none 0 0) (World.grownBy.refl _ _) (World.ownsRow_nil _ _ _ _) (fun g hg => by cases hg) HG4.out HB4.out)
                 have HMR1 := Lib.hid (HI1.out.grown HG4.out (HI1.out.notRowC HOX.out))
                 have HBR := Lib.hid (HD4.out _ HBR1.out)
                 have hoa := outsM_at HF1.out hf2
                 have HEND : Hid ((outsM G g).set p (memL G g g ++ [g]) = outsA G (g + 1)) := Lib.hid (by rw [hp]; exact outsM_put HF1.out hf2 HGI.out)
                 rw [← hp] at hoa
                 have HRW := Lib.hid hoa
                 have HPL : Hid (p < (outsM G g).length) := Lib.hid (List.getElem?_eq_some_iff.1 hoa).1
                 have HOL : Hid ((outsM G g).length ≤ 61) := Lib.hid (by have := reps_len G (g + 1); unfold outsM; rw [List.length_map]; omega)
                 have hmp := HMP0.out.first (i := g)
                 obtain ⟨n, fm, hn, HMR, HLK, HMP⟩ : ∃ n fm, n ≤ g + 1 ∧ Hid (IMap Tryz.prog 3 3 .i64 w4 w5.heap.size n fm) ∧ Hid (fm (.int .i64 (g : Nat)) = some ((p : Nat) : Int)) ∧ Hid (MapAt G (g + 1) fm) :=
                   ⟨_, _, Nat.le_refl _, HMR1, Lib.hid (by rw [hp]; exact hmp g (by omega) HF1.out), Lib.hid hmp⟩
                 rw [← outsM_first HF1.out HGI.out] at HNR0
                 obtain ⟨vo, hvo⟩ : ∃ vo, vo = Value.slice (some ⟨g4, 0, none⟩) (pos G g + 1) c4 := ⟨_, rfl⟩
                 rw [← hvo] at HNR0 ⊢
                 have HNR := HNR0
                 clear hvo hp hoa hmp HNR0 HMR1 HBR1 HNO1 HOX HPU HB4 HG4 HD4 HL4 HI1 HG1 HMP0 hbz holi hlc3 hc3 HKEY HOLN
                 obtain ⟨wr, rfl⟩ : ∃ wr, wr = w4 := ⟨_, rfl⟩))
            generalize outsM G g = outs2 at *
            generalize memL G g g = row at *
            obtain ⟨GB, cb, u, hvo, hgb1, hgb2, hcu, hfu, hou⟩ := HNR.out.at_ HPL.out
            have hrow : outs2[p]'HPL.out = row := by
              have h := HRW.out
              rw [List.getElem?_eq_getElem HPL.out] at h
              exact Option.some.inj h
            rw [hrow] at hou
            have hou : wr.ownsRow w5.heap.size 3 1 u row.length (row.map natV) := by
              have h := hou
              rw [List.length_map] at h
              exact h
            obtain ⟨n2, hn2⟩ : ∃ n2, outs2.length = n2 := ⟨_, rfl⟩
            have HN2 := Lib.hid hn2
            have hpl : p < n2 := by rw [← hn2]; exact HPL.out
            have hnl : n2 ≤ 61 := by rw [← hn2]; exact HOL.out
            rw [hn2] at hvo
            have HMGB : Hid (some w5.heap.size ≠ some GB) := Lib.hid (by
              obtain ⟨vs, _, h2, _⟩ := HNR.out.open1
              have h := HMR.out.notRowC h2
              rw [hvo] at h
              exact h)
            subst hvo
            obtain ⟨AU, cU, hu, hcu1, hcu2, _⟩ := own_form hou
            subst hu
            unfold maxLen at hcu2
            have hrl : row.length ≤ 60 := HRL.out
            have HNU := Lib.hid hou
            have HCU := Lib.hid hcu
            have hplI : (p : Int) < (n2 : Int) := by omega
            have hp0 : (0 : Int) ≤ (p : Int) := by omega
            have hpt : ((p : Int)).toNat = p := by omega
            clear hn2 hrow hou hcu hfu
            have KEEP : Hid (∀ w', wr.grownBy w' none → IMap Tryz.prog 3 3 .i64 w' w5.heap.size n fm) := Lib.hid (fun w' hg => HMR.out.grown hg (by simp))
            have hlk : ∀ w', IMap Tryz.prog 3 3 .i64 w' w5.heap.size n fm → (Instr.lookup 77 (.map (some w5.heap.size)) (.int .i64 (g : Nat)) false).run Tryz.prog w' = .ok (.int .i64 (p : Nat)) w' := fun w' h => by
              have h1 := h.look (T := 77) (Maps.int_keyed Tryz.underlying3) Tryz.underlying77 Tryz.underlying3 (fun w => by kernel_rfl) (key := .int .i64 (g : Nat)) (kl := .int .i64 (g : Nat)) (keyOf_nat g (by omega)) trivial
              rw [h1, HLK.out]; rfl
            have HLQ := Lib.hid hlk
            clear hlk
            go_wp2_with fail
            refine wp_region_held_drew (S := fun w' => IMap Tryz.prog 3 3 .i64 w' w5.heap.size n fm) (by kernel_rfl) (KEEP.out _ ⟨rfl, rfl, rfl, Nat.le_refl _, fun _ _ _ => rfl⟩) (fun hHeld => ?_)
            obtain ⟨wq, hwq⟩ : ∃ wq, wq = World.drew wr := ⟨_, rfl⟩
            have HG0 : Hid (wr.grownBy wq none) := Lib.hid (by rw [hwq]; exact ⟨rfl, rfl, rfl, Nat.le_refl _, fun _ _ _ => rfl⟩)
            have HBQ : Hid (Below w5.heap.size w5 wq) := Lib.hid (by rw [hwq]; exact below_drewN HBR.out 1)
            have HNQ : Hid (Nest1 (fun g : List Nat => g.map natV) 35 3 w5.heap.size wq (.slice (some ⟨GB, 0, none⟩) n2 cb) outs2) := Lib.hid (by rw [hwq]; exact HNR.out)
            have HUQ : Hid (wq.ownsRow w5.heap.size 3 1 (.slice AU row.length cU) row.length (row.map natV)) := Lib.hid (by rw [hwq]; exact HNU.out)
            have HCQ : Hid (wq.cell? ⟨GB, p, none⟩ = some (.slice AU row.length cU)) := Lib.hid (by rw [hwq]; exact HCU.out)
            rw [← hwq] at hHeld ⊢
            have HHQ := Lib.hid hHeld
            clear hwq HNR HNU HCU HBR
            refine wpAnyH_take (i := 0) (v := ?_) rfl (by kernel_rfl) (by kernel_rfl) (by kernel_rfl) (fun _ _ _ h => h) (Or.inl ⟨by rfl, ?_⟩) (by assumption) ?_
            rotate_left
            · (intro w hSw; (try dsimp only at hSw); go_simp; try with_reducible rfl)
            try simp only [List.getElem_toArray, List.getElem_cons_succ, List.getElem_cons_zero, Act.put, List.setIfInBounds_toArray, List.set_cons_zero, List.set_cons_succ]
            refine wpAnyH_take (i := 1) (v := ?_) rfl (by kernel_rfl) (by kernel_rfl) (by kernel_rfl) (fun _ _ _ h => h) (Or.inl ⟨by rfl, ?_⟩) (by assumption) ?_
            rotate_left
            · (intro w hSw; (try dsimp only at hSw); go_simp; try with_reducible rfl)
            try simp only [List.getElem_toArray, List.getElem_cons_succ, List.getElem_cons_zero, Act.put, List.setIfInBounds_toArray, List.set_cons_zero, List.set_cons_succ]
            refine wpAnyH_take (i := 2) (v := ?_) rfl (by kernel_rfl) (by kernel_rfl) (by kernel_rfl) (fun _ _ _ h => h) (Or.inl ⟨by rfl, ?_⟩) (by assumption) ?_
            rotate_left
            · (intro w hSw; (try dsimp only at hSw); go_simp; try with_reducible rfl)
            try simp only [List.getElem_toArray, List.getElem_cons_succ, List.getElem_cons_zero, Act.put, List.setIfInBounds_toArray, List.set_cons_zero, List.set_cons_succ]
            refine wpAnyH_take (i := 3) (v := ?_) rfl (by kernel_rfl) (by kernel_rfl) (by kernel_rfl) (fun _ _ _ h => h) (Or.inl ⟨by rfl, ?_⟩) (by assumption) ?_
            rotate_left
            · (intro w hSw; (try dsimp only at hSw); go_simp; rw [HLQ.out _ hSw]; exact rfl; try with_reducible rfl)
            try simp only [List.getElem_toArray, List.getElem_cons_succ, List.getElem_cons_zero, Act.put, List.setIfInBounds_toArray, List.set_cons_zero, List.set_cons_succ]
            refine wpAnyH_take (i := 4) (v := ?_) rfl (by kernel_rfl) (by kernel_rfl) (by kernel_rfl) (fun _ _ _ h => h) (Or.inl ⟨by rfl, ?_⟩) (by assumption) ?_
            rotate_left
            · (intro w hSw; (try dsimp only at hSw); go_simp; try with_reducible rfl)
            try simp only [List.getElem_toArray, List.getElem_cons_succ, List.getElem_cons_zero, Act.put, List.setIfInBounds_toArray, List.set_cons_zero, List.set_cons_succ]
            refine wpAnyH_take (i := 5) (v := ?_) rfl (by kernel_rfl) (by kernel_rfl) (by kernel_rfl) (fun _ _ _ h => h) (Or.inl ⟨by rfl, ?_⟩) (by assumption) ?_
            rotate_left
            · (intro w hSw; (try dsimp only at hSw); go_simp; try with_reducible rfl)
            try simp only [List.getElem_toArray, List.getElem_cons_succ, List.getElem_cons_zero, Act.put, List.setIfInBounds_toArray, List.set_cons_zero, List.set_cons_succ]
            refine wpAnyH_take (i := 6) (v := ?_) rfl (by kernel_rfl) (by kernel_rfl) (by kernel_rfl) (fun _ _ _ h => h) (Or.inl ⟨by rfl, ?_⟩) (by assumption) ?_
            rotate_left
            · (intro w hSw; (try dsimp only at hSw); go_simp; try with_reducible rfl)
            try simp only [List.getElem_toArray, List.getElem_cons_succ, List.getElem_cons_zero, Act.put, List.setIfInBounds_toArray, List.set_cons_zero, List.set_cons_succ]
            refine wpAnyH_take (i := 7) (v := ?_) rfl (by kernel_rfl) (by kernel_rfl) (by kernel_rfl) (fun _ _ _ h => h) (Or.inl ⟨by rfl, ?_⟩) (by assumption) ?_
            rotate_left
            · (intro w hSw; (try dsimp only at hSw); go_simp; rw [HLQ.out _ hSw]; exact rfl; try with_reducible rfl)
            try simp only [List.getElem_toArray, List.getElem_cons_succ, List.getElem_cons_zero, Act.put, List.setIfInBounds_toArray, List.set_cons_zero, List.set_cons_succ]
            refine wpAnyH_take (i := 8) (v := ?_) rfl (by kernel_rfl) (by kernel_rfl) (by kernel_rfl) (fun _ _ _ h => h) (Or.inl ⟨by rfl, ?_⟩) (by assumption) ?_
            rotate_left
            · (intro w hSw; (try dsimp only at hSw); go_simp; try with_reducible rfl)
            try simp only [List.getElem_toArray, List.getElem_cons_succ, List.getElem_cons_zero, Act.put, List.setIfInBounds_toArray, List.set_cons_zero, List.set_cons_succ]
            refine wpAnyH_take (i := 10) (v := ?_) rfl (by kernel_rfl) (by kernel_rfl) (by kernel_rfl) (fun _ _ _ h => h) (Or.inl ⟨by rfl, ?_⟩) (by assumption) ?_
            rotate_left
            · (intro w hSw; (try dsimp only at hSw); go_simp; try with_reducible rfl)
            try simp only [List.getElem_toArray, List.getElem_cons_succ, List.getElem_cons_zero, Act.put, List.setIfInBounds_toArray, List.set_cons_zero, List.set_cons_succ]
            refine wpAnyH_ready (rs := [9, 11]) (by kernel_rfl) (by simp) ?_
            refine AllReadyH.cons rfl (fun K hK => ?_) (AllReadyH.cons rfl (fun K hK => ?_) AllReadyH.nil)
            · have hcl := HCQ.out
              rw [if_pos (by rfl)]
              simp only [List.getElem_toArray, List.getElem_cons_succ, List.getElem_cons_zero]
              go_simp
              refine hK.out _ _ hHeld (fun hHeld => ?_)
              clear hK K
              try simp only [List.getElem_toArray, List.getElem_cons_succ, List.getElem_cons_zero, Act.put, List.setIfInBounds_toArray, List.set_cons_zero, List.set_cons_succ]
              clear hcl
              refine wpAnyH_ready (rs := [11]) (by kernel_rfl) (by simp) ?_
              refine AllReadyH.cons rfl (fun K hK => ?_) AllReadyH.nil
              rw [if_pos (by rfl)]
              simp only [List.getElem_toArray, List.getElem_cons_succ, List.getElem_cons_zero]
              go_simp
              refine hK.out _ _ (KEEP.out _ ⟨HG0.out.os, HG0.out.tape, HG0.out.output, by rw [World.size_alloc]; exact Nat.le_succ_of_le HG0.out.size, fun j hj hne => (Below.heap_alloc wq _ j (Nat.lt_of_lt_of_le hj HG0.out.size)).trans (HG0.out.block j hj hne)⟩) (fun hHeld => ?_)
              clear hK K
              try simp only [List.getElem_toArray, List.getElem_cons_succ, List.getElem_cons_zero, Act.put, List.setIfInBounds_toArray, List.set_cons_zero, List.set_cons_succ]
              refine wpAnyH_ready (rs := [12]) (by kernel_rfl) (by simp) ?_
              refine AllReadyH.cons rfl (fun K hK => ?_) AllReadyH.nil
              refine step_app_new (w := wq) (by rfl) (.tmp 173) (.tmp 175) 35 (by rfl) 3 (.int .i64 0) 1 8 Tryz.underlying35 (by kernel_rfl) rfl (by decide) [.int .i64 (g : Nat)] 0 rfl HUQ.out HBQ.out.size (by rfl) (by rfl) (by rfl) (by decide) (by simp [Value.oneCell']) (by unfold maxLen; omega) (by omega) ?_
              intro g4 c4 w4 HB4 HG4 HD4 HL4
              have hput := HNQ.out.put (by decide) HPL.out (a := row ++ [g]) (wA := wq) (by rw [HN2.out]) HCQ.out (World.grownBy.refl _ _) HG4.out (by
                have h := HB4.out
                rw [List.map_append, List.length_append, List.length_map]
                exact h) (fun g hg => by
                have e := Option.some.inj hg
                rcases HL4.out with h | h
                · exact .inl (by rw [h]; exact hg)
                · exact .inr (by rw [← e]; exact h)) rfl
              have HNP := Lib.hid hput.1
              have hf4 := hput.2.2.1
              have hc4 := hput.2.2.2
              have HM4 := Lib.hid (HHQ.out.grown HG4.out (HHQ.out.notRowC HUQ.out))
              have HM5 := Lib.hid (HM4.out.grown hput.2.1 HMGB.out)
              have HB5 := Lib.hid ((HD4.out w5 HBQ.out).setCell (p := ⟨GB, p, none⟩) hgb1 (.slice (some ⟨g4, 0, none⟩) (row.length + 1) c4))
              clear hput HB4 HG4 HD4 HL4
              refine hK.out _ _ HM4.out (fun hHeld => ?_)
              clear hK K
              try simp only [List.getElem_toArray, List.getElem_cons_succ, List.getElem_cons_zero, Act.put, List.setIfInBounds_toArray, List.set_cons_zero, List.set_cons_succ]
              refine wpAnyH_take (i := 13) (v := ?_) rfl (by kernel_rfl) (by kernel_rfl) (by kernel_rfl) (fun _ _ _ h => h) (Or.inl ⟨by rfl, ?_⟩) (by assumption) ?_
              rotate_left
              · (intro w hSw; (try dsimp only at hSw); go_simp; try with_reducible rfl)
              try simp only [List.getElem_toArray, List.getElem_cons_succ, List.getElem_cons_zero, Act.put, List.setIfInBounds_toArray, List.set_cons_zero, List.set_cons_succ]
              refine wpAnyH_ready (rs := [14]) (by kernel_rfl) (by simp) ?_
              refine AllReadyH.cons rfl (fun K hK => ?_) AllReadyH.nil
              clear hHeld
              rw [if_pos (by rfl)]
              simp only [List.getElem_toArray, List.getElem_cons_succ, List.getElem_cons_zero]
              go_simp
              refine hK.out _ _ HM5.out (fun hHeld => ?_)
              clear hK K
              try simp only [List.getElem_toArray, List.getElem_cons_succ, List.getElem_cons_zero, Act.put, List.setIfInBounds_toArray, List.set_cons_zero, List.set_cons_succ]
              refine wpAnyH_done (by kernel_rfl) ?_ _
              clear hHeld hf4 hc4 HM4 HNQ HUQ HCQ HBQ KEEP HG0
              rw [HEND.out] at HNP
              obtain ⟨wz, hwz⟩ : ∃ wz, wz = w4.setCell ⟨GB, p, none⟩ (.slice (some ⟨g4, 0, none⟩) (row.length + 1) c4) := ⟨_, rfl⟩
              go_wp2_with fail
              go_roundw
              case rel => exact ⟨g + 1, by omega, by go_num, HB5, Lib.hid ⟨fm, HM5.out.mono hn, HMP.out⟩, HNP⟩
              case measure => simp [intOf]; omega
            · rw [if_pos (by rfl)]
              simp only [List.getElem_toArray, List.getElem_cons_succ, List.getElem_cons_zero]
              go_simp
              refine hK.out _ _ (KEEP.out _ ⟨HG0.out.os, HG0.out.tape, HG0.out.output, by rw [World.size_alloc]; exact Nat.le_succ_of_le HG0.out.size, fun j hj hne => (Below.heap_alloc wq _ j (Nat.lt_of_lt_of_le hj HG0.out.size)).trans (HG0.out.block j hj hne)⟩) (fun hHeld => ?_)
              clear hK K
              try simp only [List.getElem_toArray, List.getElem_cons_succ, List.getElem_cons_zero, Act.put, List.setIfInBounds_toArray, List.set_cons_zero, List.set_cons_succ]
              refine wpAnyH_ready (rs := [9]) (by kernel_rfl) (by simp) ?_
              refine AllReadyH.cons rfl (fun K hK => ?_) AllReadyH.nil
              have hcl : (wq.alloc (.cells #[.int .i64 (g : Nat)] 3)).cell? ⟨GB, p, none⟩ = some (.slice AU row.length cU) := (World.cell?_of_block (Below.heap_alloc wq _ GB (World.block_lt_of_cell? wq _ HCQ.out))).trans HCQ.out
              rw [if_pos (by rfl)]
              simp only [List.getElem_toArray, List.getElem_cons_succ, List.getElem_cons_zero]
              go_simp
              refine hK.out _ _ hHeld (fun hHeld => ?_)
              clear hK K
              try simp only [List.getElem_toArray, List.getElem_cons_succ, List.getElem_cons_zero, Act.put, List.setIfInBounds_toArray, List.set_cons_zero, List.set_cons_succ]
              clear hcl
              refine wpAnyH_ready (rs := [12]) (by kernel_rfl) (by simp) ?_
              refine AllReadyH.cons rfl (fun K hK => ?_) AllReadyH.nil
              refine step_app_new (w := wq) (by rfl) (.tmp 173) (.tmp 175) 35 (by rfl) 3 (.int .i64 0) 1 8 Tryz.underlying35 (by kernel_rfl) rfl (by decide) [.int .i64 (g : Nat)] 0 rfl HUQ.out HBQ.out.size (by rfl) (by rfl) (by rfl) (by decide) (by simp [Value.oneCell']) (by unfold maxLen; omega) (by omega) ?_
              intro g4 c4 w4 HB4 HG4 HD4 HL4
              have hput := HNQ.out.put (by decide) HPL.out (a := row ++ [g]) (wA := wq) (by rw [HN2.out]) HCQ.out (World.grownBy.refl _ _) HG4.out (by
                have h := HB4.out
                rw [List.map_append, List.length_append, List.length_map]
                exact h) (fun g hg => by
                have e := Option.some.inj hg
                rcases HL4.out with h | h
                · exact .inl (by rw [h]; exact hg)
                · exact .inr (by rw [← e]; exact h)) rfl
              have HNP := Lib.hid hput.1
              have hf4 := hput.2.2.1
              have hc4 := hput.2.2.2
              have HM4 := Lib.hid (HHQ.out.grown HG4.out (HHQ.out.notRowC HUQ.out))
              have HM5 := Lib.hid (HM4.out.grown hput.2.1 HMGB.out)
              have HB5 := Lib.hid ((HD4.out w5 HBQ.out).setCell (p := ⟨GB, p, none⟩) hgb1 (.slice (some ⟨g4, 0, none⟩) (row.length + 1) c4))
              clear hput HB4 HG4 HD4 HL4
              refine hK.out _ _ HM4.out (fun hHeld => ?_)
              clear hK K
              try simp only [List.getElem_toArray, List.getElem_cons_succ, List.getElem_cons_zero, Act.put, List.setIfInBounds_toArray, List.set_cons_zero, List.set_cons_succ]
              refine wpAnyH_take (i := 13) (v := ?_) rfl (by kernel_rfl) (by kernel_rfl) (by kernel_rfl) (fun _ _ _ h => h) (Or.inl ⟨by rfl, ?_⟩) (by assumption) ?_
              rotate_left
              · (intro w hSw; (try dsimp only at hSw); go_simp; try with_reducible rfl)
              try simp only [List.getElem_toArray, List.getElem_cons_succ, List.getElem_cons_zero, Act.put, List.setIfInBounds_toArray, List.set_cons_zero, List.set_cons_succ]
              refine wpAnyH_ready (rs := [14]) (by kernel_rfl) (by simp) ?_
              refine AllReadyH.cons rfl (fun K hK => ?_) AllReadyH.nil
              clear hHeld
              rw [if_pos (by rfl)]
              simp only [List.getElem_toArray, List.getElem_cons_succ, List.getElem_cons_zero]
              go_simp
              refine hK.out _ _ HM5.out (fun hHeld => ?_)
              clear hK K
              try simp only [List.getElem_toArray, List.getElem_cons_succ, List.getElem_cons_zero, Act.put, List.setIfInBounds_toArray, List.set_cons_zero, List.set_cons_succ]
              refine wpAnyH_done (by kernel_rfl) ?_ _
              clear hHeld hf4 hc4 HM4 HNQ HUQ HCQ HBQ KEEP HG0
              rw [HEND.out] at HNP
              obtain ⟨wz, hwz⟩ : ∃ wz, wz = w4.setCell ⟨GB, p, none⟩ (.slice (some ⟨g4, 0, none⟩) (row.length + 1) c4) := ⟨_, rfl⟩
              go_wp2_with fail
              go_roundw
              case rel => exact ⟨g + 1, by omega, by go_num, HB5, Lib.hid ⟨fm, HM5.out.mono hn, HMP.out⟩, HNP⟩
              case measure => simp [intOf]; omega
          · have h1 : ((g : Int) == (i : Int)) = false := by rw [beq_eq_false_iff_ne]; omega
            have hnf : firstB G i = false := by
              cases hb : firstB G i with
              | false => rfl
              | true => exact absurd (HGI.out.symm.trans ((first_self HTW.out hil).1 hb)) hgi
            obtain ⟨p, hp⟩ : ∃ p, p = pos G g := ⟨_, rfl⟩
            have hoa := outsM_at HF1.out hf2
            have HEND : Hid ((outsA G i).set p (memL G i g ++ [i]) = outsA G (i + 1)) := Lib.hid (by rw [hp, ← outsM_old hnf]; exact outsM_put HF1.out hf2 HGI.out)
            rw [← hp, outsM_old hnf] at hoa
            have HRW := Lib.hid hoa
            have HPL : Hid (p < (outsA G i).length) := Lib.hid (List.getElem?_eq_some_iff.1 hoa).1
            have HOL : Hid ((outsA G i).length ≤ 61) := Lib.hid (by have := reps_len G i; rw [outsA_len]; omega)
            obtain ⟨n, hn, HMR, HLK, HMP⟩ : ∃ n, n ≤ i + 1 ∧ Hid (IMap Tryz.prog 3 3 .i64 wr w5.heap.size n fm) ∧ Hid (fm (.int .i64 (g : Nat)) = some ((p : Nat) : Int)) ∧ Hid (MapAt G (i + 1) fm) :=
              ⟨i, by omega, HMR0, Lib.hid (by rw [hp]; exact HMP0.out g (by omega) HF1.out), Lib.hid (HMP0.out.old hnf)⟩
            have HNR := HNO
            generalize outsA G i = outs2 at *
            generalize memL G i g = row at *
            have hgi2 : g ≤ 60 := by omega
            clear hoa hnf hp HMR0 HMP0 HNO hgi
            go_wp2_with fail
            obtain ⟨GB, cb, u, hvo, hgb1, hgb2, hcu, hfu, hou⟩ := HNR.out.at_ HPL.out
            have hrow : outs2[p]'HPL.out = row := by
              have h := HRW.out
              rw [List.getElem?_eq_getElem HPL.out] at h
              exact Option.some.inj h
            rw [hrow] at hou
            have hou : wr.ownsRow w5.heap.size 3 1 u row.length (row.map natV) := by
              have h := hou
              rw [List.length_map] at h
              exact h
            obtain ⟨n2, hn2⟩ : ∃ n2, outs2.length = n2 := ⟨_, rfl⟩
            have HN2 := Lib.hid hn2
            have hpl : p < n2 := by rw [← hn2]; exact HPL.out
            have hnl : n2 ≤ 61 := by rw [← hn2]; exact HOL.out
            rw [hn2] at hvo
            have HMGB : Hid (some w5.heap.size ≠ some GB) := Lib.hid (by
              obtain ⟨vs, _, h2, _⟩ := HNR.out.open1
              have h := HMR.out.notRowC h2
              rw [hvo] at h
              exact h)
            subst hvo
            obtain ⟨AU, cU, hu, hcu1, hcu2, _⟩ := own_form hou
            subst hu
            unfold maxLen at hcu2
            have hrl : row.length ≤ 60 := HRL.out
            have HNU := Lib.hid hou
            have HCU := Lib.hid hcu
            have hplI : (p : Int) < (n2 : Int) := by omega
            have hp0 : (0 : Int) ≤ (p : Int) := by omega
            have hpt : ((p : Int)).toNat = p := by omega
            clear hn2 hrow hou hcu hfu
            have KEEP : Hid (∀ w', wr.grownBy w' none → IMap Tryz.prog 3 3 .i64 w' w5.heap.size n fm) := Lib.hid (fun w' hg => HMR.out.grown hg (by simp))
            have hlk : ∀ w', IMap Tryz.prog 3 3 .i64 w' w5.heap.size n fm → (Instr.lookup 77 (.map (some w5.heap.size)) (.int .i64 (g : Nat)) false).run Tryz.prog w' = .ok (.int .i64 (p : Nat)) w' := fun w' h => by
              have h1 := h.look (T := 77) (Maps.int_keyed Tryz.underlying3) Tryz.underlying77 Tryz.underlying3 (fun w => by kernel_rfl) (key := .int .i64 (g : Nat)) (kl := .int .i64 (g : Nat)) (keyOf_nat g (by omega)) trivial
              rw [h1, HLK.out]; rfl
            have HLQ := Lib.hid hlk
            clear hlk
            go_wp2_with fail
            refine wp_region_held_drew (S := fun w' => IMap Tryz.prog 3 3 .i64 w' w5.heap.size n fm) (by kernel_rfl) (KEEP.out _ ⟨rfl, rfl, rfl, Nat.le_refl _, fun _ _ _ => rfl⟩) (fun hHeld => ?_)
            obtain ⟨wq, hwq⟩ : ∃ wq, wq = World.drew wr := ⟨_, rfl⟩
            have HG0 : Hid (wr.grownBy wq none) := Lib.hid (by rw [hwq]; exact ⟨rfl, rfl, rfl, Nat.le_refl _, fun _ _ _ => rfl⟩)
            have HBQ : Hid (Below w5.heap.size w5 wq) := Lib.hid (by rw [hwq]; exact below_drewN HBR.out 1)
            have HNQ : Hid (Nest1 (fun g : List Nat => g.map natV) 35 3 w5.heap.size wq (.slice (some ⟨GB, 0, none⟩) n2 cb) outs2) := Lib.hid (by rw [hwq]; exact HNR.out)
            have HUQ : Hid (wq.ownsRow w5.heap.size 3 1 (.slice AU row.length cU) row.length (row.map natV)) := Lib.hid (by rw [hwq]; exact HNU.out)
            have HCQ : Hid (wq.cell? ⟨GB, p, none⟩ = some (.slice AU row.length cU)) := Lib.hid (by rw [hwq]; exact HCU.out)
            rw [← hwq] at hHeld ⊢
            have HHQ := Lib.hid hHeld
            clear hwq HNR HNU HCU HBR
            refine wpAnyH_take (i := 0) (v := ?_) rfl (by kernel_rfl) (by kernel_rfl) (by kernel_rfl) (fun _ _ _ h => h) (Or.inl ⟨by rfl, ?_⟩) (by assumption) ?_
            rotate_left
            · (intro w hSw; (try dsimp only at hSw); go_simp; try with_reducible rfl)
            try simp only [List.getElem_toArray, List.getElem_cons_succ, List.getElem_cons_zero, Act.put, List.setIfInBounds_toArray, List.set_cons_zero, List.set_cons_succ]
            refine wpAnyH_take (i := 1) (v := ?_) rfl (by kernel_rfl) (by kernel_rfl) (by kernel_rfl) (fun _ _ _ h => h) (Or.inl ⟨by rfl, ?_⟩) (by assumption) ?_
            rotate_left
            · (intro w hSw; (try dsimp only at hSw); go_simp; try with_reducible rfl)
            try simp only [List.getElem_toArray, List.getElem_cons_succ, List.getElem_cons_zero, Act.put, List.setIfInBounds_toArray, List.set_cons_zero, List.set_cons_succ]
            refine wpAnyH_take (i := 2) (v := ?_) rfl (by kernel_rfl) (by kernel_rfl) (by kernel_rfl) (fun _ _ _ h => h) (Or.inl ⟨by rfl, ?_⟩) (by assumption) ?_
            rotate_left
            · (intro w hSw; (try dsimp only at hSw); go_simp; try with_reducible rfl)
            try simp only [List.getElem_toArray, List.getElem_cons_succ, List.getElem_cons_zero, Act.put, List.setIfInBounds_toArray, List.set_cons_zero, List.set_cons_succ]
            refine wpAnyH_take (i := 3) (v := ?_) rfl (by kernel_rfl) (by kernel_rfl) (by kernel_rfl) (fun _ _ _ h => h) (Or.inl ⟨by rfl, ?_⟩) (by assumption) ?_
            rotate_left
            · (intro w hSw; (try dsimp only at hSw); go_simp; rw [HLQ.out _ hSw]; exact rfl; try with_reducible rfl)
            try simp only [List.getElem_toArray, List.getElem_cons_succ, List.getElem_cons_zero, Act.put, List.setIfInBounds_toArray, List.set_cons_zero, List.set_cons_succ]
            refine wpAnyH_take (i := 4) (v := ?_) rfl (by kernel_rfl) (by kernel_rfl) (by kernel_rfl) (fun _ _ _ h => h) (Or.inl ⟨by rfl, ?_⟩) (by assumption) ?_
            rotate_left
            · (intro w hSw; (try dsimp only at hSw); go_simp; try with_reducible rfl)
            try simp only [List.getElem_toArray, List.getElem_cons_succ, List.getElem_cons_zero, Act.put, List.setIfInBounds_toArray, List.set_cons_zero, List.set_cons_succ]
            refine wpAnyH_take (i := 5) (v := ?_) rfl (by kernel_rfl) (by kernel_rfl) (by kernel_rfl) (fun _ _ _ h => h) (Or.inl ⟨by rfl, ?_⟩) (by assumption) ?_
            rotate_left
            · (intro w hSw; (try dsimp only at hSw); go_simp; try with_reducible rfl)
            try simp only [List.getElem_toArray, List.getElem_cons_succ, List.getElem_cons_zero, Act.put, List.setIfInBounds_toArray, List.set_cons_zero, List.set_cons_succ]
            refine wpAnyH_take (i := 6) (v := ?_) rfl (by kernel_rfl) (by kernel_rfl) (by kernel_rfl) (fun _ _ _ h => h) (Or.inl ⟨by rfl, ?_⟩) (by assumption) ?_
            rotate_left
            · (intro w hSw; (try dsimp only at hSw); go_simp; try with_reducible rfl)
            try simp only [List.getElem_toArray, List.getElem_cons_succ, List.getElem_cons_zero, Act.put, List.setIfInBounds_toArray, List.set_cons_zero, List.set_cons_succ]
            refine wpAnyH_take (i := 7) (v := ?_) rfl (by kernel_rfl) (by kernel_rfl) (by kernel_rfl) (fun _ _ _ h => h) (Or.inl ⟨by rfl, ?_⟩) (by assumption) ?_
            rotate_left
            · (intro w hSw; (try dsimp only at hSw); go_simp; rw [HLQ.out _ hSw]; exact rfl; try with_reducible rfl)
            try simp only [List.getElem_toArray, List.getElem_cons_succ, List.getElem_cons_zero, Act.put, List.setIfInBounds_toArray, List.set_cons_zero, List.set_cons_succ]
            refine wpAnyH_take (i := 8) (v := ?_) rfl (by kernel_rfl) (by kernel_rfl) (by kernel_rfl) (fun _ _ _ h => h) (Or.inl ⟨by rfl, ?_⟩) (by assumption) ?_
            rotate_left
            · (intro w hSw; (try dsimp only at hSw); go_simp; try with_reducible rfl)
            try simp only [List.getElem_toArray, List.getElem_cons_succ, List.getElem_cons_zero, Act.put, List.setIfInBounds_toArray, List.set_cons_zero, List.set_cons_succ]
            refine wpAnyH_take (i := 10) (v := ?_) rfl (by kernel_rfl) (by kernel_rfl) (by kernel_rfl) (fun _ _ _ h => h) (Or.inl ⟨by rfl, ?_⟩) (by assumption) ?_
            rotate_left
            · (intro w hSw; (try dsimp only at hSw); go_simp; try with_reducible rfl)
            try simp only [List.getElem_toArray, List.getElem_cons_succ, List.getElem_cons_zero, Act.put, List.setIfInBounds_toArray, List.set_cons_zero, List.set_cons_succ]
            refine wpAnyH_ready (rs := [9, 11]) (by kernel_rfl) (by simp) ?_
            refine AllReadyH.cons rfl (fun K hK => ?_) (AllReadyH.cons rfl (fun K hK => ?_) AllReadyH.nil)
            · have hcl := HCQ.out
              rw [if_pos (by rfl)]
              simp only [List.getElem_toArray, List.getElem_cons_succ, List.getElem_cons_zero]
              go_simp
              refine hK.out _ _ hHeld (fun hHeld => ?_)
              clear hK K
              try simp only [List.getElem_toArray, List.getElem_cons_succ, List.getElem_cons_zero, Act.put, List.setIfInBounds_toArray, List.set_cons_zero, List.set_cons_succ]
              clear hcl
              refine wpAnyH_ready (rs := [11]) (by kernel_rfl) (by simp) ?_
              refine AllReadyH.cons rfl (fun K hK => ?_) AllReadyH.nil
              rw [if_pos (by rfl)]
              simp only [List.getElem_toArray, List.getElem_cons_succ, List.getElem_cons_zero]
              go_simp
              refine hK.out _ _ (KEEP.out _ ⟨HG0.out.os, HG0.out.tape, HG0.out.output, by rw [World.size_alloc]; exact Nat.le_succ_of_le HG0.out.size, fun j hj hne => (Below.heap_alloc wq _ j (Nat.lt_of_lt_of_le hj HG0.out.size)).trans (HG0.out.block j hj hne)⟩) (fun hHeld => ?_)
              clear hK K
              try simp only [List.getElem_toArray, List.getElem_cons_succ, List.getElem_cons_zero, Act.put, List.setIfInBounds_toArray, List.set_cons_zero, List.set_cons_succ]
              refine wpAnyH_ready (rs := [12]) (by kernel_rfl) (by simp) ?_
              refine AllReadyH.cons rfl (fun K hK => ?_) AllReadyH.nil
              refine step_app_new (w := wq) (by rfl) (.tmp 173) (.tmp 175) 35 (by rfl) 3 (.int .i64 0) 1 8 Tryz.underlying35 (by kernel_rfl) rfl (by decide) [.int .i64 (i : Nat)] 0 rfl HUQ.out HBQ.out.size (by rfl) (by rfl) (by rfl) (by decide) (by simp [Value.oneCell']) (by unfold maxLen; omega) (by omega) ?_
              intro g4 c4 w4 HB4 HG4 HD4 HL4
              have hput := HNQ.out.put (by decide) HPL.out (a := row ++ [i]) (wA := wq) (by rw [HN2.out]) HCQ.out (World.grownBy.refl _ _) HG4.out (by
                have h := HB4.out
                rw [List.map_append, List.length_append, List.length_map]
                exact h) (fun g hg => by
                have e := Option.some.inj hg
                rcases HL4.out with h | h
                · exact .inl (by rw [h]; exact hg)
                · exact .inr (by rw [← e]; exact h)) rfl
              have HNP := Lib.hid hput.1
              have hf4 := hput.2.2.1
              have hc4 := hput.2.2.2
              have HM4 := Lib.hid (HHQ.out.grown HG4.out (HHQ.out.notRowC HUQ.out))
              have HM5 := Lib.hid (HM4.out.grown hput.2.1 HMGB.out)
              have HB5 := Lib.hid ((HD4.out w5 HBQ.out).setCell (p := ⟨GB, p, none⟩) hgb1 (.slice (some ⟨g4, 0, none⟩) (row.length + 1) c4))
              clear hput HB4 HG4 HD4 HL4
              refine hK.out _ _ HM4.out (fun hHeld => ?_)
              clear hK K
              try simp only [List.getElem_toArray, List.getElem_cons_succ, List.getElem_cons_zero, Act.put, List.setIfInBounds_toArray, List.set_cons_zero, List.set_cons_succ]
              refine wpAnyH_take (i := 13) (v := ?_) rfl (by kernel_rfl) (by kernel_rfl) (by kernel_rfl) (fun _ _ _ h => h) (Or.inl ⟨by rfl, ?_⟩) (by assumption) ?_
              rotate_left
              · (intro w hSw; (try dsimp only at hSw); go_simp; try with_reducible rfl)
              try simp only [List.getElem_toArray, List.getElem_cons_succ, List.getElem_cons_zero, Act.put, List.setIfInBounds_toArray, List.set_cons_zero, List.set_cons_succ]
              refine wpAnyH_ready (rs := [14]) (by kernel_rfl) (by simp) ?_
              refine AllReadyH.cons rfl (fun K hK => ?_) AllReadyH.nil
              clear hHeld
              rw [if_pos (by rfl)]
              simp only [List.getElem_toArray, List.getElem_cons_succ, List.getElem_cons_zero]
              go_simp
              refine hK.out _ _ HM5.out (fun hHeld => ?_)
              clear hK K
              try simp only [List.getElem_toArray, List.getElem_cons_succ, List.getElem_cons_zero, Act.put, List.setIfInBounds_toArray, List.set_cons_zero, List.set_cons_succ]
              refine wpAnyH_done (by kernel_rfl) ?_ _
              clear hHeld hf4 hc4 HM4 HNQ HUQ HCQ HBQ KEEP HG0
              rw [HEND.out] at HNP
              obtain ⟨wz, hwz⟩ : ∃ wz, wz = w4.setCell ⟨GB, p, none⟩ (.slice (some ⟨g4, 0, none⟩) (row.length + 1) c4) := ⟨_, rfl⟩
              go_wp2_with fail
              go_roundw
              case rel => exact ⟨i + 1, by omega, by go_num, HB5, Lib.hid ⟨fm, HM5.out.mono hn, HMP.out⟩, HNP⟩
              case measure => simp [intOf]; omega
            · rw [if_pos (by rfl)]
              simp only [List.getElem_toArray, List.getElem_cons_succ, List.getElem_cons_zero]
              go_simp
              refine hK.out _ _ (KEEP.out _ ⟨HG0.out.os, HG0.out.tape, HG0.out.output, by rw [World.size_alloc]; exact Nat.le_succ_of_le HG0.out.size, fun j hj hne => (Below.heap_alloc wq _ j (Nat.lt_of_lt_of_le hj HG0.out.size)).trans (HG0.out.block j hj hne)⟩) (fun hHeld => ?_)
              clear hK K
              try simp only [List.getElem_toArray, List.getElem_cons_succ, List.getElem_cons_zero, Act.put, List.setIfInBounds_toArray, List.set_cons_zero, List.set_cons_succ]
              refine wpAnyH_ready (rs := [9]) (by kernel_rfl) (by simp) ?_
              refine AllReadyH.cons rfl (fun K hK => ?_) AllReadyH.nil
              have hcl : (wq.alloc (.cells #[.int .i64 (i : Nat)] 3)).cell? ⟨GB, p, none⟩ = some (.slice AU row.length cU) := (World.cell?_of_block (Below.heap_alloc wq _ GB (World.block_lt_of_cell? wq _ HCQ.out))).trans HCQ.out
              rw [if_pos (by rfl)]
              simp only [List.getElem_toArray, List.getElem_cons_succ, List.getElem_cons_zero]
              go_simp
              refine hK.out _ _ hHeld (fun hHeld => ?_)
              clear hK K
              try simp only [List.getElem_toArray, List.getElem_cons_succ, List.getElem_cons_zero, Act.put, List.setIfInBounds_toArray, List.set_cons_zero, List.set_cons_succ]
              clear hcl
              refine wpAnyH_ready (rs := [12]) (by kernel_rfl) (by simp) ?_
              refine AllReadyH.cons rfl (fun K hK => ?_) AllReadyH.nil
              refine step_app_new (w := wq) (by rfl) (.tmp 173) (.tmp 175) 35 (by rfl) 3 (.int .i64 0) 1 8 Tryz.underlying35 (by kernel_rfl) rfl (by decide) [.int .i64 (i : Nat)] 0 rfl HUQ.out HBQ.out.size (by rfl) (by rfl) (by rfl) (by decide) (by simp [Value.oneCell']) (by unfold maxLen; omega) (by omega) ?_
              intro g4 c4 w4 HB4 HG4 HD4 HL4
              have hput := HNQ.out.put (by decide) HPL.out (a := row ++ [i]) (wA := wq) (by rw [HN2.out]) HCQ.out (World.grownBy.refl _ _) HG4.out (by
                have h := HB4.out
                rw [List.map_append, List.length_append, List.length_map]
                exact h) (fun g hg => by
                have e := Option.some.inj hg
                rcases HL4.out with h | h
                · exact .inl (by rw [h]; exact hg)
                · exact .inr (by rw [← e]; exact h)) rfl
              have HNP := Lib.hid hput.1
              have hf4 := hput.2.2.1
              have hc4 := hput.2.2.2
              have HM4 := Lib.hid (HHQ.out.grown HG4.out (HHQ.out.notRowC HUQ.out))
              have HM5 := Lib.hid (HM4.out.grown hput.2.1 HMGB.out)
              have HB5 := Lib.hid ((HD4.out w5 HBQ.out).setCell (p := ⟨GB, p, none⟩) hgb1 (.slice (some ⟨g4, 0, none⟩) (row.length + 1) c4))
              clear hput HB4 HG4 HD4 HL4
              refine hK.out _ _ HM4.out (fun hHeld => ?_)
              clear hK K
              try simp only [List.getElem_toArray, List.getElem_cons_succ, List.getElem_cons_zero, Act.put, List.setIfInBounds_toArray, List.set_cons_zero, List.set_cons_succ]
              refine wpAnyH_take (i := 13) (v := ?_) rfl (by kernel_rfl) (by kernel_rfl) (by kernel_rfl) (fun _ _ _ h => h) (Or.inl ⟨by rfl, ?_⟩) (by assumption) ?_
              rotate_left
              · (intro w hSw; (try dsimp only at hSw); go_simp; try with_reducible rfl)
              try simp only [List.getElem_toArray, List.getElem_cons_succ, List.getElem_cons_zero, Act.put, List.setIfInBounds_toArray, List.set_cons_zero, List.set_cons_succ]
              refine wpAnyH_ready (rs := [14]) (by kernel_rfl) (by simp) ?_
              refine AllReadyH.cons rfl (fun K hK => ?_) AllReadyH.nil
              clear hHeld
              rw [if_pos (by rfl)]
              simp only [List.getElem_toArray, List.getElem_cons_succ, List.getElem_cons_zero]
              go_simp
              refine hK.out _ _ HM5.out (fun hHeld => ?_)
              clear hK K
              try simp only [List.getElem_toArray, List.getElem_cons_succ, List.getElem_cons_zero, Act.put, List.setIfInBounds_toArray, List.set_cons_zero, List.set_cons_succ]
              refine wpAnyH_done (by kernel_rfl) ?_ _
              clear hHeld hf4 hc4 HM4 HNQ HUQ HCQ HBQ KEEP HG0
              rw [HEND.out] at HNP
              obtain ⟨wz, hwz⟩ : ∃ wz, wz = w4.setCell ⟨GB, p, none⟩ (.slice (some ⟨g4, 0, none⟩) (row.length + 1) c4) := ⟨_, rfl⟩
              go_wp2_with fail
              go_roundw
              case rel => exact ⟨i + 1, by omega, by go_num, HB5, Lib.hid ⟨fm, HM5.out.mono hn, HMP.out⟩, HNP⟩
              case measure => simp [intOf]; omega
        · obtain rfl : i = L := by omega
          have HPP : Hid (ClPost ls (m : Int) N D w (.returned (.tuple #[u19, .int .i64 0])) wr) := Lib.hid ⟨_, by rw [HF.out], by
            rw [HQQ.out]; exact HNO.out.base HBW.out.size, below_trans2 HBW.out HBR.out HBW.out.size⟩
          clear HNO HBR HMI
          go_wp2_with fail
          go_ret2
          exact HPP.out
end Go.Proofs.YtnkdcmibafjplaaGreatDoor
