/-
  slices.Equal of entries that are alike; 'SamePackage' of the reference at two packages that read the same.
-/
import Derived.Test.YtgfacedfndcgdaaGreatDoorPack
import Derived.Deep.QuietTactic
import Derived.BigQuiet
namespace Go.Proofs.YtgfacedfndcgdaaGreatDoor
open Go.RowKit
set_option linter.unusedVariables false
set_option linter.unusedSimpArgs false

set_option maxRecDepth 100000 in
set_option maxHeartbeats 2000000 in
theorem eqEnt_is (v1 v2 : Value) (l : List Ent) (w : World) (S T : Nat → Prop) (h1 : (Rp.sl entRp).ok w S [v1] l) (h2 : (Rp.sl entRp).ok w T [v2] l) :
    Calls Tryz.prog 22 #[v1, v2] w fun e w' => e = .returned (.bool true) ∧ ∃ n, w' = w.drewN n := by
  obtain ⟨A, c, rfl, hl1, hc1, _⟩ := Rp.sl_open h1
  obtain ⟨B, d, rfl, hl2, hc2, _⟩ := Rp.sl_open h2
  unfold maxLen at hc1 hc2
  have H1 := Lib.hid h1
  have H2 := Lib.hid h2
  clear h1 h2
  go_enter Tryz.func22, Tryz.ntmps22
  go_wp2
  go_loopw [13] (fun i wr => ∃ k n : Nat, k ≤ l.length ∧ i = .int .i64 k ∧ wr = w.drewN n) (fun i _ => l.length - (intOf i).toNat)
  case atStart => exact ⟨0, 0, Nat.zero_le _, rfl, rfl⟩
  case round =>
    obtain ⟨k, n, hk, rfl, rfl⟩ := hrel
    by_cases hlt : k < l.length
    · obtain ⟨ad1, c', e1, _, c0, c1, c2, _⟩ := ent_at H1.out hlt
      cases e1
      obtain ⟨ad2, c', e1, _, d0, d1, d2, _⟩ := ent_at H2.out hlt
      cases e1
      generalize l[k] = x at *
      have b0 : ((bstr x.path).toList == (bstr x.path).toList) = true := beq_self_eq_true _
      have b1 : (x.size == x.size) = true := beq_self_eq_true _
      have b2 : ((bstr x.digest).toList == (bstr x.digest).toList) = true := beq_self_eq_true _
      have hm0 : (0 : Int) ≤ (k : Int) := by omega
      have hmL : (k : Int) < (l.length : Int) := by omega
      go_wp2
      go_quiet (fail)
      go_wp2
      go_roundw
      case rel => exact ⟨k + 1, _, by omega, by go_num, rfl⟩
      case measure => simp [intOf]; omega
    · obtain rfl : k = l.length := by omega
      go_wp2
      go_ret
      exact ⟨rfl, _, rfl⟩
set_option maxRecDepth 100000 in
set_option maxHeartbeats 1000000 in
theorem samePack_any (n : List UInt8) (v1 v2 : Value) (l : List Ent) (w : World) (h1 : (Rp.sl entRp).ok w (· < w.heap.size) [v1] l) (h2 : (Rp.sl entRp).ok w (· < w.heap.size) [v2] l) :
    Calls Tryz.prog 9 #[.agg #[.string (bstr n), v1], .agg #[.string (bstr n), v2]] w fun e w' => e = .returned (.bool true) ∧ Below w.heap.size w w' := by
  obtain ⟨A, c, rfl, hl1, hc1, _⟩ := Rp.sl_open h1
  obtain ⟨B, d, rfl, hl2, hc2, _⟩ := Rp.sl_open h2
  have ha := (Below.refl w.heap.size w).alloc (Nat.le_refl _) (.cells #[.string (bstr n), .slice A l.length c] 24)
  have hb := ha.alloc ha.size (.cells #[.string (bstr n), .slice B l.length d] 24)
  have H1 := Lib.hid (Rp.ext _ h1 hb)
  have H2 := Lib.hid (Rp.ext _ h2 hb)
  have HB := Lib.hid hb
  clear h1 h2 ha hb
  go_enter Tryz.func9, Tryz.ntmps9
  go_wp2_with fail
  refine (eqEnt_is _ _ l _ _ _ H1.out H2.out).mono ?_
  rintro e w2 ⟨rfl, nq, rfl⟩
  go_wp2_with fail
  go_ret
  exact ⟨rfl, below_drewN HB.out nq⟩

end Go.Proofs.YtgfacedfndcgdaaGreatDoor
