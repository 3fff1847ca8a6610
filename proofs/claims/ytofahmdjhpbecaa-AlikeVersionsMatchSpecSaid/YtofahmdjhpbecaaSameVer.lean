/-
  'SameVersions': true just if both slices of versions read as the same list.
-/
import Derived.Test.YtofahmdjhpbecaaProg
import Derived.Test.YtofahmdjhpbecaaSame
import Derived.Test.YtofahmdjhpbecaaVerPlain
namespace Go.Proofs.Ytofahmdjhpbecaa
open Go.RowKit
set_option linter.unusedVariables false
set_option linter.unusedSimpArgs false

theorem eqB_is {q : Bool} (v1 v2 : Value) (a b : List UInt8) (w : World) (S T : Nat → Prop) (hq : decide (a = b) = q) (h1 : (Rp.sl Rp.u8).ok w S [v1] a) (h2 : (Rp.sl Rp.u8).ok w T [v2] b) :
    Calls Try.prog 28 #[v1, v2] w fun e w' => e = .returned (.bool q) ∧ ∃ n, w' = w.drewN n := by
  subst hq; exact eqBytes_any v1 v2 a b w S T h1 h2
theorem sameC_is {q : Bool} (v1 v2 : Value) (a b : List Cp) (w : World) (S T : Nat → Prop) (hq : decide (a = b) = q) (h1 : (Rp.sl cpRp).ok w S [v1] a) (h2 : (Rp.sl cpRp).ok w T [v2] b) :
    Calls Try.prog 25 #[v1, v2] w fun e w' => e = .returned (.bool q) ∧ ∃ n, w' = w.drewN n := by
  subst hq; exact sameCopies_any v1 v2 a b w S T h1 h2

set_option maxRecDepth 100000 in
set_option maxHeartbeats 1000000 in
theorem sameVersions_any (v1 v2 : Value) (a b : List Ver) (w : World) (S T : Nat → Prop) (h1 : (Rp.sl verRp).ok w S [v1] a) (h2 : (Rp.sl verRp).ok w T [v2] b) :
    Calls Try.prog 48 #[v1, v2] w fun e w' => e = .returned (.bool (decide (a = b))) ∧ Drawn w w' := by
  obtain ⟨A, c, rfl, hl1, hc1, _⟩ := Rp.sl_open h1
  obtain ⟨B, d, rfl, hl2, hc2, _⟩ := Rp.sl_open h2
  unfold maxLen at hc1 hc2
  have H1 := Lib.hid h1
  have H2 := Lib.hid h2
  clear h1 h2
  by_cases hlen : a.length = b.length
  · have hab : ((a.length : Int) != (b.length : Int)) = false := by simp [hlen]
    have HL := Lib.hid hlen
    clear hlen
    go_enter Try.func48, Try.ntmps48
    go_wp2
    go_loopw [13] (fun i wr => ∃ k : Nat, k ≤ a.length ∧ i = .int .i64 k ∧ Hid (a.take k = b.take k) ∧ Hid (Drawn w wr)) (fun i _ => a.length - (intOf i).toNat)
    case atStart => exact ⟨0, Nat.zero_le _, rfl, rfl, Drawn.refl w⟩
    case round =>
      obtain ⟨k, hk, rfl, HT, HW⟩ := hrel
      by_cases hlt : k < a.length
      · have hlb : k < b.length := by rw [← HL.out]; exact hlt
        obtain ⟨ad1, us1, rfl, _, _, hu1, hcell1⟩ := Rp.sl_at (Rp.drawn _ H1.out HW.out) hlt
        obtain ⟨ad2, us2, rfl, _, _, hu2, hcell2⟩ := Rp.sl_at (Rp.drawn _ H2.out HW.out) hlb
        obtain ⟨vb1, vc1, rfl, hv1, hu1'⟩ := ver_open hu1
        obtain ⟨vb2, vc2, rfl, hv2, hu2'⟩ := ver_open hu2
        have c10 : wr.cell? (ad1.add (k * 3)) = some (.bool a[k].whole) := hcell1 0 _ rfl
        have c11 := hcell1 1 _ rfl
        have c12 := hcell1 2 _ rfl
        have c20 : wr.cell? (ad2.add (k * 3)) = some (.bool b[k].whole) := hcell2 0 _ rfl
        have c21 := hcell2 1 _ rfl
        have c22 := hcell2 2 _ rfl
        rw [add_fld _ _ _ (by omega)] at c11 c12 c21 c22
        change wr.cell? ⟨(ad1.add (k * 3)).block, (ad1.add (k * 3)).off + 1, none⟩ = some vb1 at c11
        change wr.cell? ⟨(ad1.add (k * 3)).block, (ad1.add (k * 3)).off + 2, none⟩ = some vc1 at c12
        change wr.cell? ⟨(ad2.add (k * 3)).block, (ad2.add (k * 3)).off + 1, none⟩ = some vb2 at c21
        change wr.cell? ⟨(ad2.add (k * 3)).block, (ad2.add (k * 3)).off + 2, none⟩ = some vc2 at c22
        obtain ⟨A3, c3, rfl, _⟩ := Rp.sl_open hv1
        obtain ⟨A4, c4, rfl, _⟩ := Rp.sl_open hv2
        obtain ⟨A5, c5, rfl, _⟩ := Rp.sl_open hu1'
        obtain ⟨A6, c6, rfl, _⟩ := Rp.sl_open hu2'
        have HV1 := Lib.hid hv1
        have HV2 := Lib.hid hv2
        have HU1 := Lib.hid hu1'
        have HU2 := Lib.hid hu2'
        clear hcell1 hcell2 hu1 hu2 hv1 hv2 hu1' hu2' hab
        have fin : ∀ w', Drawn w w' → a[k] ≠ b[k] → (Ending.returned (.bool false) : Ending) = .returned (.bool (decide (a = b))) ∧ Drawn w w' := fun w' hw h =>
          ⟨by rw [decide_eq_false (ne_of_get hlt hlb h)], hw⟩
        have HF := Lib.hid fin
        clear fin
        have i1 : (0 : Int) ≤ k ∧ (k : Int) < a.length := by omega
        have i2 : (0 : Int) ≤ k ∧ (k : Int) < b.length := by omega
        have HEX : Hid (a[k].whole = b[k].whole → a[k].bs = b[k].bs → a[k].ps = b[k].ps → a[k] = b[k]) := fun h1 h2 h3 => by
          generalize a[k] = x at *
          generalize b[k] = y at *
          cases x; cases y; simp_all
        have HNE : Hid (¬ (a[k].whole = b[k].whole ∧ a[k].bs = b[k].bs ∧ a[k].ps = b[k].ps) → a[k] ≠ b[k]) := fun h e => h (by rw [e]; exact ⟨rfl, rfl, rfl⟩)
        generalize hwa : a[k].whole = p at c10
        generalize hwb : b[k].whole = q at c20
        have HWA := Lib.hid hwa
        have HWB := Lib.hid hwb
        clear hwa hwb
        by_cases e1 : p = q
        · subst e1
          have E1 := Lib.hid (HWA.out.trans HWB.out.symm)
          by_cases e2 : a[k].bs = b[k].bs
          · have E2 := Lib.hid e2
            have E2D := Lib.hid (decide_eq_true e2)
            clear e2
            by_cases e3 : a[k].ps = b[k].ps
            · have E3D := Lib.hid (decide_eq_true e3)
              have HE := Lib.hid (HEX.out E1.out E2.out e3)
              clear e3
              cases p
              all_goals
                go_wp2
                go_quiet (first | (go_at_call 28; exact Calls.quiet_of (eqB_is _ _ _ _ _ _ _ E2D.out (Rp.drewN _ HV1.out _) (Rp.drewN _ HV2.out _))) | (go_at_call 25; exact Calls.quiet_of (sameC_is _ _ _ _ _ _ _ E3D.out (Rp.drewN _ HU1.out _) (Rp.drewN _ HU2.out _))))
                go_wp2
                go_roundw
                case rel => exact ⟨k + 1, by omega, by go_num, take_eq_succ HT.out hlt hlb HE.out, HW.out.more _⟩
                case measure => simp [intOf]; omega
            · have E3D := Lib.hid (decide_eq_false e3)
              have HN := Lib.hid (HNE.out (fun h => e3 h.2.2))
              clear e3
              cases p
              all_goals
                go_wp2
                go_quiet (first | (go_at_call 28; exact Calls.quiet_of (eqB_is _ _ _ _ _ _ _ E2D.out (Rp.drewN _ HV1.out _) (Rp.drewN _ HV2.out _))) | (go_at_call 25; exact Calls.quiet_of (sameC_is _ _ _ _ _ _ _ E3D.out (Rp.drewN _ HU1.out _) (Rp.drewN _ HU2.out _))))
                go_wp2
                go_ret
                exact HF.out _ (HW.out.more _) HN.out
          · have E2D := Lib.hid (decide_eq_false e2)
            have HN := Lib.hid (HNE.out (fun h => e2 h.2.1))
            clear e2
            cases p
            all_goals
              go_wp2
              go_quiet ((go_at_call 28; exact Calls.quiet_of (eqB_is _ _ _ _ _ _ _ E2D.out (Rp.drewN _ HV1.out _) (Rp.drewN _ HV2.out _))))
              go_wp2
              go_ret
              exact HF.out _ (HW.out.more _) HN.out
        · have HN := Lib.hid (HNE.out (fun h => e1 (by rw [← HWA.out, ← HWB.out]; exact h.1)))
          cases p <;> cases q
          case false.false => exact absurd rfl e1
          case true.true => exact absurd rfl e1
          all_goals
            go_wp2
            go_quiet (fail)
            go_wp2
            go_ret
            exact HF.out _ (HW.out.more _) HN.out
      · have hd : decide (a = b) = true := decide_eq_true (eq_of_takes HT.out (by omega) HL.out)
        clear hab
        go_wp2
        go_ret
        exact ⟨by rw [hd]; rfl, HW.out⟩
  · have hab : ((a.length : Int) != (b.length : Int)) = true := by simp; omega
    have hd : decide (a = b) = false := decide_eq_false (by rintro rfl; exact hlen rfl)
    clear hlen
    go_enter Try.func48, Try.ntmps48
    go_wp2
    go_ret
    exact ⟨by rw [hd]; rfl, Drawn.refl w⟩
end Go.Proofs.Ytofahmdjhpbecaa
