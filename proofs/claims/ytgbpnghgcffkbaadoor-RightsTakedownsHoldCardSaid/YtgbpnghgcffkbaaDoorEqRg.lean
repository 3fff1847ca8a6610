/-
  'slices.Equal' at rights: true of two rows that read as the same list. It only reads. What takedowns are: plain facts.
-/
import Derived.Test.YtgbpnghgcffkbaaDoorStLaw
import Derived.Deep.QuietTactic
import Derived.BigQuiet
namespace Go.Proofs.YtgbpnghgcffkbaaDoor
open Go.RowKit
set_option linter.unusedVariables false
set_option linter.unusedSimpArgs false

set_option maxRecDepth 100000 in
set_option maxHeartbeats 2000000 in
theorem eqRgt_is (v1 v2 : Value) (l : List Rgt) (w : World) (S T : Nat → Prop) (h1 : (Rp.sl rgtRp).ok w S [v1] l) (h2 : (Rp.sl rgtRp).ok w T [v2] l) :
    Calls Tryd.prog 13 #[v1, v2] w fun e w' => e = .returned (.bool true) ∧ ∃ n, w' = w.drewN n := by
  obtain ⟨A, c, rfl, hl1, hc1, _⟩ := Rp.sl_open h1
  obtain ⟨B, d, rfl, hl2, hc2, _⟩ := Rp.sl_open h2
  unfold maxLen at hc1 hc2
  have H1 := Lib.hid h1
  have H2 := Lib.hid h2
  clear h1 h2
  go_enter Tryd.func13, Tryd.ntmps13
  go_wp2
  go_loopw [13] (fun i wr => ∃ k n : Nat, k ≤ l.length ∧ i = .int .i64 k ∧ wr = w.drewN n) (fun i _ => l.length - (intOf i).toNat)
  case atStart => exact ⟨0, 0, Nat.zero_le _, rfl, rfl⟩
  case round =>
    obtain ⟨k, n, hk, rfl, rfl⟩ := hrel
    by_cases hlt : k < l.length
    · obtain ⟨ad1, c', e1, _, c0, c1, c2, c3, c4, c5, c6, c7, c8, _⟩ := rgt_at H1.out hlt
      cases e1
      obtain ⟨ad2, c', e1, _, d0, d1, d2, d3, d4, d5, d6, d7, d8, _⟩ := rgt_at H2.out hlt
      cases e1
      generalize l[k] = x at *
      have b0 : ((bstr x.id).toList == (bstr x.id).toList) = true := beq_self_eq_true _
      have b1 : ((bstr x.pre).toList == (bstr x.pre).toList) = true := beq_self_eq_true _
      have b2 : (x.frm == x.frm) = true := beq_self_eq_true _
      have b3 : (x.to == x.to) = true := beq_self_eq_true _
      have b4 : (x.st == x.st) = true := beq_self_eq_true _
      have b5 : (x.en == x.en) = true := beq_self_eq_true _
      have b6 : (x.made == x.made) = true := beq_self_eq_true _
      have b7 : (x.kind == x.kind) = true := beq_self_eq_true _
      have b8 : ((bstr x.team).toList == (bstr x.team).toList) = true := beq_self_eq_true _
      have hm0 : (0 : Int) ≤ (k : Int) := by omega
      have hmL : (k : Int) < (l.length : Int) := by omega
      go_wp2
      go_quiet (fail)
      go_wp2
      go_roundw
      case rel => exact ⟨k + 1, _, by omega, by go_num, rfl⟩
      case measure => simp [intOf]; omega
    · obtain rfl : k = l.length := by omega
      go_wp2
      go_ret
      exact ⟨rfl, _, rfl⟩
theorem pre_len {t : List UInt8} (h : isPre t = true) : t.length ≤ 2100 := by
  unfold isPre at h
  rw [Bool.and_eq_true] at h
  have := of_decide_eq_true h.2
  omega
theorem td_form {l : List App} {hold : Int} (h : appsFault l = 0) {x : Rgt} (hx : x ∈ tdAll l hold) : ∃ r : Req, x = tdRgt r hold ∧ isNm r.ask.id = true ∧ isPre r.ask.pre = true ∧ 0 ≤ r.ask.at_ ∧ r.ask.at_ ≤ 253402300799 ∧ r.ask.at_ < tdEnd r hold ∧ tdEnd r hold ≤ 253402300800 := by
  unfold tdAll at hx
  obtain ⟨k, hk, hm⟩ := (tdAt_mem _ (Nat.le_refl _)).1 hx
  obtain ⟨h1, h2⟩ := tdOne_mem.1 hm
  rw [getD_at _ _ hk] at h1 h2
  have hr : (folV l 253402300799)[k] ∈ folV l 253402300799 := List.getElem_mem hk
  generalize (folV l 253402300799)[k] = r at *
  have hr0 := hr
  rw [folV, if_pos h] at hr
  have hask := nowAt_ask (P := fun x => isNm x.id = true ∧ isPre x.pre = true ∧ 0 ≤ x.at_ ∧ x.at_ ≤ 253402300799) _ (fun j hj => by
      have h0 := folF_app (fol_ok h j hj)
      exact ⟨(appF_parts h0).1, (appF_parts h0).2, (appF_at h0).1, (appF_at h0).2⟩) r hr
  refine ⟨r, h2, hask.1, hask.2.1, hask.2.2.1, hask.2.2.2, h1, ?_⟩
  have h0 : tdEnd0 r ≤ 253402300800 := by
    unfold tdEnd0
    rw [folV_max h] at hr0
    obtain ⟨q, hq, rfl⟩ := List.mem_iff_getElem.1 hr0
    split
    · rename_i e
      rcases rs_ends l.length q hq with ⟨_, e2⟩ | ⟨j, hj, e2⟩
      · rw [getD_at _ _ hq] at e2; omega
      · rw [getD_at _ _ hq] at e2
        have := (at_in h hj).2
        omega
    · omega
  unfold tdEnd
  split <;> omega
theorem td_wf {n : Int} (h : 0 ≤ n ∧ n ≤ 253402300800) : (Lit.int .i64 n).wf = true := by
  have hm : IntKind.i64.min = -9223372036854775808 := by rfl
  simp [Lit.wf, hm]
  omega
theorem td_ok {l : List App} {hold : Int} : ∀ x ∈ tdV l hold, RgtOk x := by
  intro x hx
  unfold tdV at hx
  split at hx
  · rename_i hf
    have h : appsFault l = 0 := by
      unfold tdF at hf
      split at hf
      · rename_i e; exact absurd hf e
      · rename_i e; exact Decidable.not_not.1 e
    obtain ⟨r, rfl, h1, h2, h3, h4, h5, h6⟩ := td_form h hx
    have a := (nm_len h1).2
    have b := pre_len h2
    refine ⟨?_, ?_, td_wf (by show (0 : Int) ≤ 0 ∧ (0 : Int) ≤ 253402300800; decide), td_wf (by show (0 : Int) ≤ 253402300800 ∧ (253402300800 : Int) ≤ 253402300800; decide), td_wf (by show 0 ≤ r.ask.at_ ∧ r.ask.at_ ≤ 253402300800; omega), td_wf (by show 0 ≤ tdEnd r hold ∧ tdEnd r hold ≤ 253402300800; omega), td_wf (by show 0 ≤ r.ask.at_ ∧ r.ask.at_ ≤ 253402300800; omega), td_wf (by show (0 : Int) ≤ 4 ∧ (4 : Int) ≤ 253402300800; decide), by show 0 ≤ maxLen; omega⟩
    · show r.ask.id.length ≤ maxLen; unfold maxLen; omega
    · show r.ask.pre.length ≤ maxLen; unfold maxLen; omega
  · cases hx
end Go.Proofs.YtgbpnghgcffkbaaDoor
