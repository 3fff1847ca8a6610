/-
  ephemera/alike.Signature walked.
-/
import Derived.Test.YtllbklnljmgppaaMix
import Derived.Deep.RegionLaw
namespace Go.Proofs.Ytllbklnljmgppaa
open Go.RowKit
set_option linter.unusedVariables false
set_option linter.unusedSimpArgs false

/-- The row while place i is made: k of the numbers of l are done. -/
def sgCells (l : List Int) (K i : Nat) : List Value := (sgL l i).map u64V ++ List.replicate (K - i) (u64V 0)
def sgMid (l : List Int) (K i k : Nat) : List Value := (sgL l i).map u64V ++ u64V (minL (l.take k) i) :: List.replicate (K - (i + 1)) (u64V 0)
theorem sgCells_zero (l : List Int) (K : Nat) : sgCells l K 0 = List.replicate K (u64V 0) := by simp [sgCells, sgL]
theorem sgCells_full (l : List Int) (K : Nat) : sgCells l K K = (sgL l K).map u64V := by simp [sgCells]
theorem sgMid_zero (l : List Int) (K i : Nat) (h : i < K) : (sgCells l K i).set i (u64V 18446744073709551615) = sgMid l K i 0 := by
  unfold sgCells sgMid
  rw [show K - i = (K - (i + 1)) + 1 by omega, List.replicate_succ, List.set_append, if_neg (by simp [sgL_len])]
  simp [sgL_len, minL]
theorem sgMid_at (l : List Int) (K i k : Nat) : (sgMid l K i k)[i]? = some (u64V (minL (l.take k) i)) := by
  unfold sgMid
  rw [List.getElem?_append_right (by simp [sgL_len])]
  simp [sgL_len]
theorem sgMid_succ (l : List Int) (K i k : Nat) (h : k < l.length) : (sgMid l K i k).set i (u64V (min (minL (l.take k) i) (mixI l[k] i))) = sgMid l K i (k + 1) := by
  unfold sgMid
  rw [List.set_append, if_neg (by simp [sgL_len]), minL_succ h]
  simp [sgL_len]
theorem sgMid_full (l : List Int) (K i : Nat) : sgMid l K i l.length = sgCells l K (i + 1) := by
  unfold sgMid sgCells
  rw [List.take_length, sgL_succ]
  simp
theorem sgCells_at (l : List Int) (K i : Nat) (h : i < K) : ∃ u, (sgCells l K i)[i]? = some u := by
  exact ⟨_, List.getElem?_eq_getElem (by simp [sgCells, sgL_len]; omega)⟩
theorem set_grownG (w : World) (g i : Nat) (v : Value) : w.grownBy (w.setCell ⟨g, i, none⟩ v) (some g) :=
  ⟨rfl, rfl, rfl, by simp, fun k _ hk => heap_setCell_other w _ k v (fun e => hk (by rw [e]))⟩
set_option maxRecDepth 100000 in
set_option maxHeartbeats 8000000 in
theorem sig_any (t : List UInt8) (n k : Int) (w : World) (h : t.length ≤ maxLen) : Calls Try.prog 10 #[.string (bstr t), .int .i64 n, .int .i64 k] w (SgPost t n k w) := by
  have HR := Lib.hid (oneText_ok t w h)
  have HF := Lib.hid (textsFault_one t)
  have HB : Hid (Below w.heap.size w (w.alloc (.cells #[.string (bstr t)] 9))) := Lib.hid ((Below.refl _ _).alloc (Nat.le_refl _) _)
  have HI := Lib.hid (isShingle_any n)
  by_cases ht : t.length ≤ 20000
  · have hf : txF t = 0 := if_pos ht
    by_cases hg : isSh n = true ∧ isSg k = true
    · have hF : sgF t n k = 0 := by rw [sgF, if_pos ht, if_pos hg]
      have HO : Hid (sgO t n k = sgL (shL t n.toNat) k.toNat ∧ sgF t n k = 0) := Lib.hid ⟨if_pos hF, hF⟩
      obtain ⟨hn, hk⟩ := hg
      have hn2 : 1 ≤ n ∧ n ≤ 10 := of_decide_eq_true hn
      have hk2 : 1 ≤ k ∧ k ≤ 128 := of_decide_eq_true hk
      obtain ⟨m, rfl⟩ := Int.eq_ofNat_of_zero_le (show 0 ≤ n by omega)
      obtain ⟨K, rfl⟩ := Int.eq_ofNat_of_zero_le (show 0 ≤ k by omega)
      rw [Int.toNat_natCast, Int.toNat_natCast] at HO
      have HW := Lib.hid (shingles_any t m (w.alloc (.cells #[.string (bstr t)] 9)) ht (by omega) (by omega))
      have hmk := fun w => run_make1R (P := Try.prog) w 22 27 (.int .u64 0) 8 Try.underlying22 u64_info rfl K (by omega) (by omega)
      have d1 : ¬ (K : Int) < 1 := by omega
      have d2 : ¬ (128 : Int) < (K : Int) := by omega
      have hll := shL_len ht m (by omega)
      have HRG : Hid (∀ {x : Int}, x ∈ shL t m → 0 ≤ x ∧ x ≤ 18446744073709551615) := Lib.hid (fun h => shL_range h)
      clear hF hn2 hk2 hk
      go_enter Try.func10, Try.ntmps10
      go_wp2_with (at_builtin; fail)
      refine (checkTexts_any _ _ _ _ HR.out).mono ?_
      rintro e w1 ⟨rfl, rfl⟩
      rw [HF.out, hf]
      go_wp2_with (at_builtin; fail)
      refine (HI.out _).mono ?_
      rintro e w1 ⟨rfl, rfl⟩
      rw [hn]
      go_wp2_with (at_builtin; fail)
      refine HW.out.mono ?_
      rintro e w2 ⟨v, rfl, hO, hb⟩
      generalize shL t m = l at *
      have HRD := Lib.hid (Rp.int_own (k := .u64) (S := (· < w2.heap.size)) hO (fun x hx => by
        have hr := HRG.out hx
        simp [Lit.wf, IntKind.min, IntKind.max, IntKind.signed, IntKind.bits]; omega) (fun g hg => (hO.lt g hg).2))
      obtain ⟨A, c, rfl, hlc, hc, _⟩ := Rp.sl_open HRD.out
      unfold maxLen at hc
      have HB2 := Lib.hid (below_pre (B := 0) HB.out hb)
      clear hO hb HW hf HF
      go_wp2_with (at_builtin; fail)
      go_loopw [38] (fun vi wr => ∃ i : Nat, i ≤ K ∧ vi = .int .i64 i ∧ Hid (Blk wr w2.heap.size 27 (sgCells l K i)) ∧ Hid (w2.grownBy wr (some w2.heap.size))) (fun vi _ => K - (intOf vi).toNat)
      case atStart =>
        refine ⟨0, by omega, rfl, ?_, World.grownBy_alloc _ _ _⟩
        rw [sgCells_zero]; exact Blk.new w2 _ _
      case round =>
        obtain ⟨i, hi, rfl, HK, HG⟩ := hrel
        by_cases hlt : i < K
        · obtain ⟨u, hu⟩ := sgCells_at l K i hlt
          have hcl : wr.cell? ⟨w2.heap.size, i, none⟩ = some u := by rw [HK.out.cell, hu]
          have hfr := HK.out.frozen i
          clear hu
          have HK1 : Hid (Blk (wr.setCell ⟨w2.heap.size, i, none⟩ (.int .u64 18446744073709551615)) w2.heap.size 27 (sgMid l K i 0)) := Lib.hid (by rw [← sgMid_zero l K i hlt]; exact HK.out.set_ _ _)
          have HG1 := Lib.hid (HG.out.trans (set_grownG wr w2.heap.size i (.int .u64 18446744073709551615)))
          clear HK HG
          go_wp2_with (at_builtin; fail)
          go_loopw [46] (fun vj wq => ∃ j : Nat, j ≤ l.length ∧ vj = .int .i64 j ∧ Hid (Blk wq w2.heap.size 27 (sgMid l K i j)) ∧ Hid (w2.grownBy wq (some w2.heap.size))) (fun vj _ => l.length - (intOf vj).toNat)
          case atStart => exact ⟨0, by omega, rfl, HK1, HG1⟩
          case round =>
            clear HK1 HG1 hcl hfr
            obtain ⟨j, hj, rfl, HK, HG⟩ := hrel
            by_cases hjl : j < l.length
            · obtain ⟨ad, u, rfl, _, hu, hcell⟩ := Rp.sl_at1 rfl ((Rp.sl (Rp.int .u64)).keep HRD.out (S' := fun _ => True) (fun g hg => HG.out.block g hg (fun e => by have := Option.some.inj e; omega)) (fun _ _ => trivial)) hjl
              obtain ⟨hu1, _⟩ := hu
              injection hu1 with hu1
              subst hu1
              have hr := HRG.out (List.getElem_mem hjl)
              obtain ⟨z, hz⟩ : ∃ z, l[j] = z := ⟨_, rfl⟩
              have HZ := Lib.hid hz
              rw [hz] at hcell hr
              clear hz
              obtain ⟨hr1, hr2⟩ := hr
              have hcl : wr.cell? ⟨w2.heap.size, i, none⟩ = some (.int .u64 (minL (l.take j) i)) := by rw [HK.out.cell, sgMid_at]; rfl
              have hfr := HK.out.frozen i
              have HM := Lib.hid (fun w => mixing_any z i w hr1 hr2 (by omega))
              have m1 := minL_lo (l.take j) i
              have m2 := minL_hi (l.take j) i
              generalize hmm : minL (l.take j) i = M at *
              have n1 := mixI_lo z i
              have n2 := mixI_hi z i
              go_wp2_with (at_builtin; fail)
              go_region_law (go_simp; go_at_call 33; refine (HM.out _).mono ?_; rintro e wz ⟨rfl, rfl⟩)
              all_goals
                have HK2 : Hid (Blk (wr.setCell ⟨w2.heap.size, i, none⟩ (.int .u64 (min M (mixI z i)))).drew w2.heap.size 27 (sgMid l K i (j + 1))) := Lib.hid (by rw [← sgMid_succ l K i j hjl, HZ.out, hmm]; exact HK.out.set_ _ _)
                have hd := HG.out.trans (set_grownG wr w2.heap.size i (.int .u64 (min M (mixI z i))))
                have HG2 : Hid (w2.grownBy (wr.setCell ⟨w2.heap.size, i, none⟩ (.int .u64 (min M (mixI z i)))).drew (some w2.heap.size)) := Lib.hid ⟨hd.os, hd.tape, hd.output, hd.size, hd.block⟩
                clear hd
                clear HK HG hmm
                go_wp2
                go_roundw
                case rel => exact ⟨j + 1, by omega, by go_num, HK2, HG2⟩
                case measure => simp [intOf]; omega
            · obtain rfl : j = l.length := by omega
              rw [sgMid_full] at HK
              go_wp2
              go_roundw
              case rel => exact ⟨i + 1, by omega, by go_num, HK, HG⟩
              case measure => simp [intOf]; omega
        · obtain rfl : i = K := by omega
          rw [sgCells_full] at HK
          have HPP : Hid (SgPost t m i w (.returned (.tuple #[.slice (some ⟨w2.heap.size, 0, none⟩) i i, .int .i64 0])) wr) := Lib.hid ⟨_, by rw [HO.out.2], by
            rw [HO.out.1, sgL_len]
            exact blk_own_row HK.out HB2.out.size (by unfold maxLen; omega) (by rw [List.length_map, sgL_len]), HB2.out.grown HG.out HB2.out.size (fun g e => by rw [← Option.some.inj e]; exact HB2.out.size)⟩
          clear HK HG HB2 HO
          go_wp2
          go_ret2
          exact HPP.out
    · have hF : sgF t n k = 1 := by rw [sgF, if_pos ht, if_neg hg]
      have HO : Hid (sgO t n k = [] ∧ sgF t n k = 1) := Lib.hid ⟨if_neg (by rw [hF]; decide), hF⟩
      have HPP : Hid (SgPost t n k w (.returned (.tuple #[.slice none 0 0, .int .i64 1])) (w.alloc (.cells #[.string (bstr t)] 9))) := Lib.hid ⟨_, by rw [HO.out.2], by rw [HO.out.1]; exact World.ownsRow_nil _ _ _ _, HB.out⟩
      clear hF
      cases hn : isSh n with
      | false =>
        clear hg
        go_enter Try.func10, Try.ntmps10
        go_wp2_with (at_builtin; fail)
        refine (checkTexts_any _ _ _ _ HR.out).mono ?_
        rintro e w1 ⟨rfl, rfl⟩
        rw [HF.out, hf]
        go_wp2_with (at_builtin; fail)
        refine (HI.out _).mono ?_
        rintro e w1 ⟨rfl, rfl⟩
        rw [hn]
        go_wp2_with fail
        go_ret2
        exact HPP.out
      | true =>
        have hk : ¬ (1 ≤ k ∧ k ≤ 128) := fun h => hg ⟨hn, decide_eq_true h⟩
        clear hg
        by_cases hk1 : k < 1
        · clear hk
          go_enter Try.func10, Try.ntmps10
          go_wp2_with (at_builtin; fail)
          refine (checkTexts_any _ _ _ _ HR.out).mono ?_
          rintro e w1 ⟨rfl, rfl⟩
          rw [HF.out, hf]
          go_wp2_with (at_builtin; fail)
          refine (HI.out _).mono ?_
          rintro e w1 ⟨rfl, rfl⟩
          rw [hn]
          go_wp2_with fail
          go_ret2
          exact HPP.out
        · have hk2 : 128 < k := by omega
          clear hk
          go_enter Try.func10, Try.ntmps10
          go_wp2_with (at_builtin; fail)
          refine (checkTexts_any _ _ _ _ HR.out).mono ?_
          rintro e w1 ⟨rfl, rfl⟩
          rw [HF.out, hf]
          go_wp2_with (at_builtin; fail)
          refine (HI.out _).mono ?_
          rintro e w1 ⟨rfl, rfl⟩
          rw [hn]
          go_wp2_with fail
          go_ret2
          exact HPP.out
  · have hf : txF t = 2 := if_neg ht
    have hF : sgF t n k = 2 := by rw [sgF, if_neg ht]
    have HO : Hid (sgO t n k = [] ∧ sgF t n k = 2) := Lib.hid ⟨if_neg (by rw [hF]; decide), hF⟩
    have HPP : Hid (SgPost t n k w (.returned (.tuple #[.slice none 0 0, .int .i64 2])) (w.alloc (.cells #[.string (bstr t)] 9))) := Lib.hid ⟨_, by rw [HO.out.2], by rw [HO.out.1]; exact World.ownsRow_nil _ _ _ _, HB.out⟩
    clear hF
    go_enter Try.func10, Try.ntmps10
    go_wp2_with (at_builtin; fail)
    refine (checkTexts_any _ _ _ _ HR.out).mono ?_
    rintro e w1 ⟨rfl, rfl⟩
    rw [HF.out, hf]
    go_wp2_with fail
    go_ret2
    exact HPP.out
end Go.Proofs.Ytllbklnljmgppaa
