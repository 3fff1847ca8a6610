/-
  ephemera/ephemeraref7.Signature walked.
-/
import Derived.Test.YtllbklnljmgppaaMix
namespace Go.Proofs.Ytllbklnljmgppaa
open Go.RowKit
set_option linter.unusedVariables false
set_option linter.unusedSimpArgs false

set_option maxRecDepth 100000 in
set_option maxHeartbeats 8000000 in
theorem refSig_any (t : List UInt8) (n k : Int) (w : World) (h : t.length ≤ maxLen) : Calls Try.prog 22 #[.string (bstr t), .int .i64 n, .int .i64 k] w (SgPost t n k w) := by
  unfold maxLen at h
  have hsz : (bstr t).size = t.length := rfl
  have HI : Hid (∀ w, Calls Try.prog 37 #[.int .i64 n, .int .i64 1, .int .i64 10] w fun e w' => e = .returned (.bool (isSh n)) ∧ w = w') := Lib.hid (fun w => within_any n 1 10 w)
  have HK : Hid (∀ w, Calls Try.prog 37 #[.int .i64 k, .int .i64 1, .int .i64 128] w fun e w' => e = .returned (.bool (isSg k)) ∧ w = w') := Lib.hid (fun w => within_any k 1 128 w)
  by_cases ht : t.length ≤ 20000
  · have d0 : ¬ (20000 : Int) < (t.length : Int) := by omega
    by_cases hg : isSh n = true ∧ isSg k = true
    · have hF : sgF t n k = 0 := by rw [sgF, if_pos ht, if_pos hg]
      have HO : Hid (sgO t n k = sgL (shL t n.toNat) k.toNat ∧ sgF t n k = 0) := Lib.hid ⟨if_pos hF, hF⟩
      obtain ⟨hn, hk⟩ := hg
      have hn2 : 1 ≤ n ∧ n ≤ 10 := of_decide_eq_true hn
      have hk2 : 1 ≤ k ∧ k ≤ 128 := of_decide_eq_true hk
      obtain ⟨m, rfl⟩ := Int.eq_ofNat_of_zero_le (show 0 ≤ n by omega)
      obtain ⟨K, rfl⟩ := Int.eq_ofNat_of_zero_le (show 0 ≤ k by omega)
      rw [Int.toNat_natCast, Int.toNat_natCast] at HO
      have HW := Lib.hid (fun w => refShingles_any t m w ht (by omega) (by omega))
      have hll := shL_len ht m (by omega)
      have HRG : Hid (∀ {x : Int}, x ∈ shL t m → 0 ≤ x ∧ x ≤ 18446744073709551615) := Lib.hid (fun h => shL_range h)
      have hK1 : 1 ≤ K ∧ K ≤ 128 := by omega
      have hrk : (K : Int) ≤ 128 := by omega
      obtain ⟨l, hl⟩ : ∃ l, shL t m = l := ⟨_, rfl⟩
      have HL := Lib.hid hl
      rw [hl] at HRG hll HO
      clear hF hn2 hk2 hl
      go_enter Try.func22, Try.ntmps22
      go_wp2_with (at_builtin; fail)
      refine (HI.out _).mono ?_
      rintro e w1 ⟨rfl, rfl⟩
      rw [hn]
      go_wp2_with (at_builtin; fail)
      refine (HK.out _).mono ?_
      rintro e w1 ⟨rfl, rfl⟩
      rw [hk]
      clear HI HK hn hk
      go_wp2_with (at_builtin; fail)
      go_loopw [8, 25] (fun vo vi wr => ∃ i : Nat, i ≤ K ∧ vi = .int .i64 i ∧ Hid (wr.ownsRow w.heap.size 27 1 vo i ((sgL l i).map u64V)) ∧ Hid (Below w.heap.size w wr)) (fun _ vi _ => K - (intOf vi).toNat)
      case atStart => exact ⟨0, by omega, rfl, Lib.hid (World.ownsRow_nil _ _ _ _), Below.refl _ _⟩
      case round =>
        obtain ⟨i, hi, rfl, HOi, HB⟩ := hrel
        by_cases hlt : i < K
        · go_wp2_with (at_builtin; fail)
          refine (HW.out _).mono ?_
          rintro e w2 ⟨v, rfl, hO, hb⟩
          rw [HL.out] at hO
          have HRD := Lib.hid (Rp.int_own (k := .u64) (S := (· < w2.heap.size)) hO (fun x hx => by
            have hr := HRG.out hx
            simp [Lit.wf, IntKind.min, IntKind.max, IntKind.signed, IntKind.bits]; omega) (fun g hg => (hO.lt g hg).2))
          obtain ⟨A, c, rfl, hlc, hc, _⟩ := Rp.sl_open HRD.out
          unfold maxLen at hc
          have HO2 := Lib.hid (own_belowU HOi.out hb)
          have HB2 := Lib.hid (below_trans2 HB.out hb HB.out.size)
          have hsz2 := HB2.out.size
          clear hO hb HOi HB
          go_wp2_with (at_builtin; fail)
          go_loopw [10, 32] (fun vm vj wq => ∃ j : Nat, j ≤ l.length ∧ vj = .int .i64 j ∧ vm = .int .u64 (minL (l.take j) i) ∧ wq = w2) (fun _ vj _ => l.length - (intOf vj).toNat)
          case atStart => exact ⟨0, by omega, rfl, rfl, rfl⟩
          case round =>
            obtain ⟨j, hj, rfl, rfl, rfl⟩ := hrel
            by_cases hjl : j < l.length
            · obtain ⟨ad, u, rfl, _, hu, hcell⟩ := Rp.sl_at1 rfl HRD.out hjl
              obtain ⟨hu1, _⟩ := hu
              injection hu1 with hu1
              subst hu1
              have hr := HRG.out (List.getElem_mem hjl)
              have HMS := Lib.hid (minL_succ hjl i)
              obtain ⟨z, hz⟩ : ∃ z, l[j] = z := ⟨_, rfl⟩
              rw [hz] at hcell hr HMS
              clear hz
              obtain ⟨hr1, hr2⟩ := hr
              have HM := Lib.hid (fun w => refMixing_any z i w hr1 hr2 (by omega))
              have m1 := minL_lo (l.take j) i
              have m2 := minL_hi (l.take j) i
              generalize minL (l.take j) i = M at *
              have n1 := mixI_lo z i
              have n2 := mixI_hi z i
              go_wp2_with (at_builtin; fail)
              refine (HM.out _).mono ?_
              rintro e w4 ⟨rfl, rfl⟩
              go_wp2_with (at_builtin; fail)
              go_roundw
              case rel => exact ⟨j + 1, by omega, by go_num, by rw [HMS.out], trivial⟩
              case measure => simp [intOf]; omega
            · obtain rfl : j = l.length := by omega
              rw [List.take_length]
              have HSS := Lib.hid (sgL_succ l i)
              go_wp2_with (at_builtin; refine app_new (w := wr) rfl (.tmp 42) (.tmp 44) 22 rfl 27 (.int .u64 0) 1 8 Try.underlying22 u64_info rfl (by decide) _ HO2.out (by omega) rfl rfl rfl (by decide) (by simp [Value.oneCell']) (by unfold maxLen; omega) (by omega) ?_; intro g4 c4 w4 HB4 HG4 HD4 HL4)
              go_roundw
              case rel =>
                refine ⟨i + 1, by omega, by go_num, ?_, HD4.out _ HB2.out⟩
                rw [HSS.out, List.map_append]
                exact HB4
              case measure => simp [intOf]; omega
        · obtain rfl : i = K := by omega
          have HPP : Hid (SgPost t m i w (.returned (.tuple #[u8, .int .i64 0])) wr) := Lib.hid ⟨_, by rw [HO.out.2], by
            rw [HO.out.1, sgL_len]; exact HOi.out, HB.out⟩
          clear HOi HB HO
          go_wp2
          go_ret2
          exact HPP.out
    · have hF : sgF t n k = 1 := by rw [sgF, if_pos ht, if_neg hg]
      have HO : Hid (sgO t n k = [] ∧ sgF t n k = 1) := Lib.hid ⟨if_neg (by rw [hF]; decide), hF⟩
      have HPP : Hid (SgPost t n k w (.returned (.tuple #[.slice none 0 0, .int .i64 1])) w) := Lib.hid ⟨_, by rw [HO.out.2], by rw [HO.out.1]; exact World.ownsRow_nil _ _ _ _, Below.refl _ _⟩
      clear hF
      cases hn : isSh n with
      | false =>
        clear hg
        go_enter Try.func22, Try.ntmps22
        go_wp2_with (at_builtin; fail)
        refine (HI.out _).mono ?_
        rintro e w1 ⟨rfl, rfl⟩
        rw [hn]
        go_wp2_with fail
        go_ret2
        exact HPP.out
      | true =>
        have hk : isSg k = false := by cases h : isSg k with
          | false => rfl
          | true => exact absurd ⟨hn, h⟩ hg
        clear hg
        go_enter Try.func22, Try.ntmps22
        go_wp2_with (at_builtin; fail)
        refine (HI.out _).mono ?_
        rintro e w1 ⟨rfl, rfl⟩
        rw [hn]
        go_wp2_with (at_builtin; fail)
        refine (HK.out _).mono ?_
        rintro e w1 ⟨rfl, rfl⟩
        rw [hk]
        go_wp2_with fail
        go_ret2
        exact HPP.out
  · have d0 : (20000 : Int) < (t.length : Int) := by omega
    have hF : sgF t n k = 2 := by rw [sgF, if_neg ht]
    have HO : Hid (sgO t n k = [] ∧ sgF t n k = 2) := Lib.hid ⟨if_neg (by rw [hF]; decide), hF⟩
    have HPP : Hid (SgPost t n k w (.returned (.tuple #[.slice none 0 0, .int .i64 2])) w) := Lib.hid ⟨_, by rw [HO.out.2], by rw [HO.out.1]; exact World.ownsRow_nil _ _ _ _, Below.refl _ _⟩
    clear hF
    go_enter Try.func22, Try.ntmps22
    go_wp2_with fail
    go_ret2
    exact HPP.out
end Go.Proofs.Ytllbklnljmgppaa
