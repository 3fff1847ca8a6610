/-
  'Proof' of the reference.
-/
import Derived.Test.YtnnoolemmnailaaDoorProg
import Derived.Test.YtnnoolemmnailaaDoorProof
namespace Go.Proofs.YtnnoolemmnailaaDoor
open Go.RowKit
set_option linter.unusedVariables false
set_option linter.unusedSimpArgs false

set_option maxRecDepth 100000 in
set_option maxHeartbeats 4000000 in
theorem refProofTop_any (v0 : Value) (l : List Leaf) (n : Int) (w : World) (h0 : (Rp.sl leafRp).ok w (· < w.heap.size) [v0] l) (hn : (Lit.int .i64 n).wf = true) :
    Calls Tryd.prog 21 #[v0, .int .i64 n] w (ProofTop l n w) := by
  obtain ⟨A, c, rfl, hl, hc, _⟩ := Rp.sl_open h0
  unfold maxLen at hc
  have H0 := Lib.hid h0
  clear h0
  go_enter Tryd.func21, Tryd.ntmps21
  go_wp2_with fail
  refine (refCheckLeaves_any _ l w H0.out).mono ?_
  rintro e w1 ⟨rfl, hb1⟩
  have HB1 := Lib.hid hb1
  clear hb1
  by_cases hf : leavesFault l = 0
  · have HF := Lib.hid hf
    have hlen := leaves_len hf
    have hl3 := hlen.1
    have HLEN := Lib.hid hlen
    rw [hf]
    clear hf hlen
    have hz : IntKind.i64.wrap ((l.length : Int) - 1) = (l.length : Int) - 1 := IntWalk.i64_in _ (by omega)
    by_cases hr : 0 ≤ n ∧ n < l.length
    · have hr1 : (0 : Int) ≤ n := hr.1
      have hr2 : n ≤ (l.length : Int) - 1 := by omega
      have HPF : Hid (proofFault l n = 0) := Lib.hid (by rw [proofFault, if_neg (by rw [HF.out]; decide), if_pos hr])
      obtain ⟨k, rfl⟩ := Int.eq_ofNat_of_zero_le hr1
      have hkl : k < l.length := by omega
      go_wp2_with fail
      refine (rwithin_any _ _ _ _).mono ?_
      rintro e w1' ⟨rfl, rfl⟩
      rw [show withinB (k : Int) 0 ((l.length : Int) - 1) = true from decide_eq_true ⟨hr1, hr2⟩]
      go_wp2_with fail
      refine (refTree_any _ l w1 (Rp.ext _ H0.out HB1.out) HLEN.out.1 HLEN.out.2).mono ?_
      rintro e w2 ⟨v, rfl, hv, hb2⟩
      have HB2 := Lib.hid (HB1.out.trans (hb2.mono HB1.out.size))
      have HT := Lib.hid hv
      have HPT : Hid (proofTopL l (k : Int) = proofOf (treeOf l) k) := Lib.hid (by rw [proofTopL, if_pos HPF.out]; rfl)
      have HPI := Lib.hid (pinv_tree hkl)
      have hTl := tree_many hl3
      have HTW := Lib.hid (tree_wide l)
      have HTX := Lib.hid (tree_lens l)
      clear hb2 hr HF
      generalize treeOf l = T at *
      obtain ⟨At, ct, rfl, hct, hctm, _⟩ := Rp.sl_open hv
      unfold maxLen at hctm
      clear hv
      go_wp2_with fail
      go_loopw [1, 7, 24] (fun vm vo vi wr => ∃ (i m : Nat) (sd : List Side), i ≤ T.length ∧ vi = .int .i64 i ∧ vm = .int .i64 m ∧ m < 1000 ∧ sd.length ≤ i ∧ Hid (PInv (T.drop i) m) ∧ Hid (sd ++ proofOf (T.drop i) m = proofOf T k) ∧ Hid (∀ s ∈ sd, s.digest.length = 16) ∧
        Hid (wr.ownsRow w2.heap.size 39 2 vo sd.length (sd.flatMap sideCells)) ∧ Hid (Below w2.heap.size w2 wr)) (fun _ _ vi _ => T.length - (intOf vi).toNat)
      case atStart => exact ⟨0, k, [], by omega, rfl, rfl, by omega, Nat.zero_le _, HPI, Lib.hid rfl, Lib.hid (fun s hs => by cases hs), World.ownsRow_nil _ _ _ _, Below.refl _ _⟩
      case round =>
        obtain ⟨i, m, sd, hi, rfl, rfl, hm, hsd, HPV, HPO, HSX, HO, HB3⟩ := hrel
        have hwsz := HB3.out.size
        obtain ⟨A5, c5, rfl, _⟩ := own_form HO.out
        by_cases hlt : i < T.length
        · obtain ⟨ad, ct', x1, e1, _, hc0, hrw⟩ := tree_at (Rp.below _ HT.out HB3.out) hlt
          cases e1
          obtain ⟨hmr, hpn⟩ := pinv_drop hlt HPV.out
          have hpo := HPO.out
          rw [proof_drop hlt] at hpo
          have hwide := HTW.out T[i] (List.getElem_mem hlt)
          have hrl := HTX.out T[i] (List.getElem_mem hlt)
          generalize T[i] = row at *
          obtain ⟨Ar, cr, rfl, hcr, hcrm, _⟩ := Rp.sl_open hrw
          rw [List.length_map] at *
          obtain ⟨ar, rfl⟩ : ∃ ad, Ar = some ad := by
            rcases Rp.sl_some (R := Rp.str) hrw (by rw [List.length_map]; omega) with ⟨ad, h⟩
            rcases h with ⟨h, _⟩ | h
            · exact ⟨ad, h⟩
            · cases h
          have HRW := Lib.hid hrw
          have HPN := Lib.hid hpn
          have HRL := Lib.hid hrl
          have hdiv : Int.tdiv (m : Int) 2 = ((m / 2 : Nat) : Int) := by rw [Int.tdiv_eq_ediv_of_nonneg (by omega)]; omega
          clear hrw hpn hrl HPV HPO
          by_cases h2 : m % 2 = 1
          · have hx := i64_xor_one m (by omega)
            rw [if_neg (by omega)] at hx
            have hk1 := str_cell HRW.out (k := m - 1) (by omega)
            have hsa : sideAt row m = [⟨row[m - 1]'(by omega), true⟩] := by rw [sideAt, if_pos h2, getD_lt _ _ _ (by omega)]
            rw [hsa] at hpo
            have hd := HRL.out (row[m - 1]'(by omega)) (List.getElem_mem _)
            have HPO := Lib.hid hpo
            clear hsa hpo
            generalize row[m - 1]'(by omega) = d at *
            have q1 : ((m - 1 : Nat) : Int) < (row.length : Int) := by omega
            have q2 : ((m - 1 : Nat) : Int) < (m : Int) := by omega
            go_wp2_with (at_builtin; refine app_new rfl (.tmp 32) (.tmp 39) 28 rfl 39 (.agg #[.string ⟨#[]⟩, .bool false]) 2 24 Tryd.underlying28 side_info rfl (by decide) [.string (bstr d), .bool true] HO.out hwsz rfl rfl rfl (by decide) (by simp [Value.oneCell']) (by unfold maxLen; omega) (by omega) ?_; intro g1 cc1 w9 HO9 HG9 HB9 HL9)
            go_roundw
            case rel => exact ⟨i + 1, m / 2, sd ++ [⟨d, true⟩], by omega, by go_num, congrArg (Value.int .i64) (by omega), by omega, by simp; omega, HPN, Lib.hid (by rw [List.append_assoc]; exact HPO.out), Lib.hid (fun s hs => by rcases List.mem_append.1 hs with h | h; exact HSX.out s h; simp at h; rw [h]; exact hd), Lib.hid (by rw [List.length_append, List.flatMap_append]; exact HO9.out), Lib.hid (HB9.out _ HB3.out)⟩
            case measure => simp [intOf]; omega
          · have hx : ((m : Int) % 2 == 1) = false := by rw [beq_eq_false_iff_ne]; omega
            have hz2 : IntKind.i64.wrap ((m : Int) + 1) = (m : Int) + 1 := IntWalk.i64_in _ (by omega)
            by_cases h3 : m + 1 < row.length
            · have hk1 := str_cell HRW.out h3
              have hsa : sideAt row m = [⟨row[m + 1], false⟩] := by rw [sideAt, if_neg h2, if_pos h3, getD_lt _ _ _ h3]
              rw [hsa] at hpo
              have hd := HRL.out row[m + 1] (List.getElem_mem _)
              have HPO := Lib.hid hpo
              clear hsa hpo
              generalize row[m + 1] = d at *
              rw [show ar.add (m + 1) = ⟨ar.block, ar.off + (m + 1), none⟩ by simp [Addr.add]] at hk1
              have q1 : (m : Int) + 1 < (row.length : Int) := by omega
              have q2 : ¬ (m : Int) + 1 < (m : Int) := by omega
              have q3 : (0 : Int) ≤ (m : Int) + 1 := by omega
              go_wp2_with (at_builtin; refine app_new rfl (.tmp 47) (.tmp 54) 28 rfl 39 (.agg #[.string ⟨#[]⟩, .bool false]) 2 24 Tryd.underlying28 side_info rfl (by decide) [.string (bstr d), .bool false] HO.out hwsz rfl rfl rfl (by decide) (by simp [Value.oneCell']) (by unfold maxLen; omega) (by omega) ?_; intro g1 cc1 w9 HO9 HG9 HB9 HL9)
              go_roundw
              case rel => exact ⟨i + 1, m / 2, sd ++ [⟨d, false⟩], by omega, by go_num, congrArg (Value.int .i64) (by omega), by omega, by simp; omega, HPN, Lib.hid (by rw [List.append_assoc]; exact HPO.out), Lib.hid (fun s hs => by rcases List.mem_append.1 hs with h | h; exact HSX.out s h; simp at h; rw [h]; exact hd), Lib.hid (by rw [List.length_append, List.flatMap_append]; exact HO9.out), Lib.hid (HB9.out _ HB3.out)⟩
              case measure => simp [intOf]; omega
            · have hsa : sideAt row m = [] := by rw [sideAt, if_neg h2, if_neg h3]
              rw [hsa, List.nil_append] at hpo
              have HPO := Lib.hid hpo
              clear hsa hpo
              have q1 : ¬ (m : Int) + 1 < (row.length : Int) := by omega
              go_wp2_with fail
              go_roundw
              case rel => exact ⟨i + 1, m / 2, sd, by omega, by go_num, congrArg (Value.int .i64) (by omega), by omega, by omega, HPN, HPO, HSX, HO, HB3⟩
              case measure => simp [intOf]; omega
        · obtain rfl : i = T.length := by omega
          have hfin : sd = proofOf T k := by have := HPO.out; rw [List.drop_length, proofOf, List.append_nil] at this; exact this
          have HP := Lib.hid (show ProofTop l (k : Int) w (.returned (.tuple #[.slice A5 sd.length c5, .int .i64 0])) wr from
            ⟨_, by rw [HPF.out], by rw [HPT.out, ← hfin]; exact sides_read HO.out (fun s hs => by rw [HSX.out s hs]; unfold maxLen; omega), HB2.out.trans (HB3.out.mono HB2.out.size)⟩)
          clear hfin HPO HO HSX
          go_wp2_with fail
          go_ret2
          exact HP.out
    · have HPF : Hid (proofFault l n = 1) := Lib.hid (by rw [proofFault, if_neg (by rw [HF.out]; decide), if_neg hr])
      have HP := Lib.hid (show ProofTop l n w (.returned (.tuple #[.slice none 0 0, .int .i64 1])) w1 from ⟨_, by rw [HPF.out], by rw [proofTopL, if_neg (by rw [HPF.out]; decide)]; exact Rp.sl_nil _ _ _, HB1.out⟩)
      go_wp2_with fail
      refine (rwithin_any _ _ _ _).mono ?_
      rintro e w1' ⟨rfl, rfl⟩
      rw [show withinB n 0 ((l.length : Int) - 1) = false from decide_eq_false (fun h => hr ⟨h.1, by omega⟩)]
      go_wp2_with fail
      go_ret2
      exact HP.out
  · have HP := Lib.hid (show ProofTop l n w (.returned (.tuple #[.slice none 0 0, .int .i64 (leavesFault l)])) w1 from ⟨_, by rw [proofFault, if_pos hf], by rw [proofTopL, if_neg (by rw [proofFault, if_pos hf]; exact hf)]; exact Rp.sl_nil _ _ _, HB1.out⟩)
    generalize leavesFault l = f at *
    go_wp2_with fail
    go_ret2
    exact HP.out
end Go.Proofs.YtnnoolemmnailaaDoor
