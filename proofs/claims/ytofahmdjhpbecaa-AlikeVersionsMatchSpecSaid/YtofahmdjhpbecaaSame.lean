/-
  'SameCopies': true just if both slices of pieces read as the same list.
-/
import Derived.Test.YtofahmdjhpbecaaProg
import Derived.Test.YtofahmdjhpbecaaDelta
import Derived.Test.YtofahmdjhpbecaaEq
namespace Go.Proofs.Ytofahmdjhpbecaa
open Go.RowKit
set_option linter.unusedVariables false
set_option linter.unusedSimpArgs false

set_option maxRecDepth 100000 in
set_option maxHeartbeats 1000000 in
theorem sameCopies_any (v1 v2 : Value) (a b : List Cp) (w : World) (S T : Nat → Prop) (h1 : (Rp.sl cpRp).ok w S [v1] a) (h2 : (Rp.sl cpRp).ok w T [v2] b) :
    Calls Try.prog 25 #[v1, v2] w fun e w' => e = .returned (.bool (decide (a = b))) ∧ Drawn w w' := by
  obtain ⟨A, c, rfl, hl1, hc1, _⟩ := Rp.sl_open h1
  obtain ⟨B, d, rfl, hl2, hc2, _⟩ := Rp.sl_open h2
  unfold maxLen at hc1 hc2
  have H1 := Lib.hid h1
  have H2 := Lib.hid h2
  clear h1 h2
  by_cases hlen : a.length = b.length
  · have hab : ((a.length : Int) != (b.length : Int)) = false := by simp [hlen]
    have HL := Lib.hid hlen
    clear hlen
    go_enter Try.func25, Try.ntmps25
    go_wp2
    go_loopw [13] (fun i wr => ∃ k : Nat, k ≤ a.length ∧ i = .int .i64 k ∧ Hid (a.take k = b.take k) ∧ Hid (Drawn w wr)) (fun i _ => a.length - (intOf i).toNat)
    case atStart => exact ⟨0, Nat.zero_le _, rfl, rfl, Drawn.refl w⟩
    case round =>
      obtain ⟨k, hk, rfl, HT, HW⟩ := hrel
      by_cases hlt : k < a.length
      · have hlb : k < b.length := by rw [← HL.out]; exact hlt
        obtain ⟨ad1, us1, rfl, _, _, hu1, hcell1⟩ := Rp.sl_at (Rp.drawn _ H1.out HW.out) hlt
        obtain ⟨ad2, us2, rfl, _, _, hu2, hcell2⟩ := Rp.sl_at (Rp.drawn _ H2.out HW.out) hlb
        obtain ⟨vb1, rfl, hv1, _, _⟩ := cp_open hu1
        obtain ⟨vb2, rfl, hv2, _, _⟩ := cp_open hu2
        have c10 : wr.cell? (ad1.add (k * 3)) = some (.int .i64 a[k].frm) := hcell1 0 _ rfl
        have c11 := hcell1 1 _ rfl
        have c12 := hcell1 2 _ rfl
        have c20 : wr.cell? (ad2.add (k * 3)) = some (.int .i64 b[k].frm) := hcell2 0 _ rfl
        have c21 := hcell2 1 _ rfl
        have c22 := hcell2 2 _ rfl
        rw [add_fld _ _ _ (by omega)] at c11 c12 c21 c22
        change wr.cell? ⟨(ad1.add (k * 3)).block, (ad1.add (k * 3)).off + 1, none⟩ = some (.int .i64 a[k].n) at c11
        change wr.cell? ⟨(ad1.add (k * 3)).block, (ad1.add (k * 3)).off + 2, none⟩ = some vb1 at c12
        change wr.cell? ⟨(ad2.add (k * 3)).block, (ad2.add (k * 3)).off + 1, none⟩ = some (.int .i64 b[k].n) at c21
        change wr.cell? ⟨(ad2.add (k * 3)).block, (ad2.add (k * 3)).off + 2, none⟩ = some vb2 at c22
        obtain ⟨A3, c3, rfl, _⟩ := Rp.sl_open hv1
        obtain ⟨A4, c4, rfl, _⟩ := Rp.sl_open hv2
        have HV1 := Lib.hid hv1
        have HV2 := Lib.hid hv2
        clear hcell1 hcell2 hu1 hu2 hv1 hv2 hab
        have fin : ∀ w', Drawn w w' → a[k] ≠ b[k] → (Ending.returned (.bool false) : Ending) = .returned (.bool (decide (a = b))) ∧ Drawn w w' := fun w' hw h =>
          ⟨by rw [decide_eq_false (ne_of_get hlt hlb h)], hw⟩
        have HF := Lib.hid fin
        clear fin
        have i1 : (0 : Int) ≤ k ∧ (k : Int) < a.length := by omega
        have i2 : (0 : Int) ≤ k ∧ (k : Int) < b.length := by omega
        by_cases e1 : a[k].frm = b[k].frm
        · have b1 : (a[k].frm != b[k].frm) = false := by simp [e1]
          have E1 := Lib.hid e1
          clear e1
          by_cases e2 : a[k].n = b[k].n
          · have b2 : (a[k].n != b[k].n) = false := by simp [e2]
            have E2 := Lib.hid e2
            clear e2
            go_wp2
            go_quiet ((go_at_call 28; exact Calls.quiet_of (eqBytes_any _ _ _ _ _ _ _ (Rp.drewN _ HV1.out _) (Rp.drewN _ HV2.out _))))
            by_cases e3 : a[k].bs = b[k].bs
            · rw [decide_eq_true e3]
              have HE : Hid (a[k] = b[k]) := by
                have h1 := E1.out
                have h2 := E2.out
                show a[k] = b[k]
                generalize a[k] = x at *
                generalize b[k] = y at *
                cases x; cases y; simp_all
              clear e3
              go_wp2
              go_roundw
              case rel => exact ⟨k + 1, by omega, by go_num, take_eq_succ HT.out hlt hlb HE.out, HW.out.more _⟩
              case measure => simp [intOf]; omega
            · rw [decide_eq_false e3]
              have E3 := Lib.hid e3
              clear e3
              go_wp2
              go_ret
              exact HF.out _ (HW.out.more _) (fun h => E3.out (by rw [h]))
          · have b2 : (a[k].n != b[k].n) = true := by simp [e2]
            have E2 := Lib.hid e2
            clear e2
            go_wp2
            go_quiet (fail)
            go_wp2
            go_ret
            exact HF.out _ (HW.out.more _) (fun h => E2.out (by rw [h]))
        · have b1 : (a[k].frm != b[k].frm) = true := by simp [e1]
          have E1 := Lib.hid e1
          clear e1
          go_wp2
          go_quiet (fail)
          go_wp2
          go_ret
          exact HF.out _ (HW.out.more _) (fun h => E1.out (by rw [h]))
      · have hd : decide (a = b) = true := decide_eq_true (eq_of_takes HT.out (by omega) HL.out)
        clear hab
        go_wp2
        go_ret
        exact ⟨by rw [hd]; rfl, HW.out⟩
  · have hab : ((a.length : Int) != (b.length : Int)) = true := by simp; omega
    have hd : decide (a = b) = false := decide_eq_false (by rintro rfl; exact hlen rfl)
    clear hlen
    go_enter Try.func25, Try.ntmps25
    go_wp2
    go_ret
    exact ⟨by rw [hd]; rfl, Drawn.refl w⟩
end Go.Proofs.Ytofahmdjhpbecaa
