/-
  'slices.Equal' at rights: true of two rows that read as the same list. It only reads.
-/
import Derived.Test.YtgilcllfdgdofaaGreatDoorRights
import Derived.Deep.QuietTactic
import Derived.BigQuiet
namespace Go.Proofs.YtgilcllfdgdofaaGreatDoor
open Go.RowKit
set_option linter.unusedVariables false
set_option linter.unusedSimpArgs false

set_option maxRecDepth 100000 in
set_option maxHeartbeats 2000000 in
theorem eqRgt_is (v1 v2 : Value) (l : List Rgt) (w : World) (S T : Nat → Prop) (h1 : (Rp.sl rgtRp).ok w S [v1] l) (h2 : (Rp.sl rgtRp).ok w T [v2] l) :
    Calls Tryz.prog 7 #[v1, v2] w fun e w' => e = .returned (.bool true) ∧ ∃ n, w' = w.drewN n := by
  obtain ⟨A, c, rfl, hl1, hc1, _⟩ := Rp.sl_open h1
  obtain ⟨B, d, rfl, hl2, hc2, _⟩ := Rp.sl_open h2
  unfold maxLen at hc1 hc2
  have H1 := Lib.hid h1
  have H2 := Lib.hid h2
  clear h1 h2
  go_enter Tryz.func7, Tryz.ntmps7
  go_wp2
  go_loopw [13] (fun i wr => ∃ k n : Nat, k ≤ l.length ∧ i = .int .i64 k ∧ wr = w.drewN n) (fun i _ => l.length - (intOf i).toNat)
  case atStart => exact ⟨0, 0, Nat.zero_le _, rfl, rfl⟩
  case round =>
    obtain ⟨k, n, hk, rfl, rfl⟩ := hrel
    by_cases hlt : k < l.length
    · obtain ⟨ad1, c', e1, _, c0, c1, c2, c3, c4, c5, c6, c7, c8, _⟩ := rgt_at H1.out hlt
      cases e1
      obtain ⟨ad2, c', e1, _, d0, d1, d2, d3, d4, d5, d6, d7, d8, _⟩ := rgt_at H2.out hlt
      cases e1
      generalize l[k] = x at *
      have b0 : ((bstr x.id).toList == (bstr x.id).toList) = true := beq_self_eq_true _
      have b1 : ((bstr x.pre).toList == (bstr x.pre).toList) = true := beq_self_eq_true _
      have b2 : (x.frm == x.frm) = true := beq_self_eq_true _
      have b3 : (x.to == x.to) = true := beq_self_eq_true _
      have b4 : (x.st == x.st) = true := beq_self_eq_true _
      have b5 : (x.en == x.en) = true := beq_self_eq_true _
      have b6 : (x.made == x.made) = true := beq_self_eq_true _
      have b7 : (x.kind == x.kind) = true := beq_self_eq_true _
      have b8 : ((bstr x.team).toList == (bstr x.team).toList) = true := beq_self_eq_true _
      have hm0 : (0 : Int) ≤ (k : Int) := by omega
      have hmL : (k : Int) < (l.length : Int) := by omega
      go_wp2
      go_quiet (fail)
      go_wp2
      go_roundw
      case rel => exact ⟨k + 1, _, by omega, by go_num, rfl⟩
      case measure => simp [intOf]; omega
    · obtain rfl : k = l.length := by omega
      go_wp2
      go_ret
      exact ⟨rfl, _, rfl⟩
end Go.Proofs.YtgilcllfdgdofaaGreatDoor
