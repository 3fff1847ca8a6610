/-
  The law 'AlikeDeltasComeBack' walked: it returns true.
-/
import Derived.Test.YtofahmdjhpbecaaDig
import Derived.Test.YtofahmdjhpbecaaBack
import Derived.Test.YtofahmdjhpbecaaRefDelta
import Derived.Test.YtofahmdjhpbecaaRebuilt
import Derived.Test.YtofahmdjhpbecaaSame
namespace Go.Proofs.Ytofahmdjhpbecaa
open Go.RowKit
set_option linter.unusedVariables false

theorem deltaL_fits {base b : List UInt8} (h2 : b.length ≤ 3000) : (Rp.sl cpRp).fits (deltaL base b) := by
  have hl := deltaL_len (base := base) (b := b)
  have hd := deltaL_ok base b
  refine ⟨by omega, fun c hc => ⟨trivial, trivial, ?_, fun _ _ => trivial⟩⟩
  have hb := bs_le (base := base) hc
  rw [hd.2] at hb
  show c.bs.length ≤ _
  omega

set_option maxRecDepth 100000 in
set_option maxHeartbeats 1000000 in
theorem dbackLaw_any (v0 : Value) (base : List UInt8) (v1 : Value) (b : List UInt8) (w : World) (h0 : (Rp.sl Rp.u8).ok w (· < w.heap.size) [v0] base) (f0 : (Rp.sl Rp.u8).fits base)
    (h1 : (Rp.sl Rp.u8).ok w (· < w.heap.size) [v1] b) (f1 : (Rp.sl Rp.u8).fits b) :
    Calls Try.prog 10 #[v0, v1] w fun e w' => e = .returned (.bool true) ∧ Below w.heap.size w w' := by
  have H0 := Lib.hid h0
  have H1 := Lib.hid h1
  clear h0 h1 f0 f1
  by_cases hbig : 3000 < base.length ∨ 3000 < b.length
  · have hf : deltaFault base b = 2 := if_pos hbig
    have ho : deltaOut base b = [] := if_pos hbig
    have HF := Lib.hid hf
    have HO := Lib.hid ho
    clear hf ho hbig
    go_enter Try.func10, Try.ntmps10
    go_wp2_with fail
    refine (Delta_any _ _ base b w H0.out H1.out).mono ?_
    rintro e w1 ⟨x, rfl, hx, hb1⟩
    rw [HO.out] at hx
    obtain ⟨A, c, rfl, _⟩ := Rp.sl_open hx
    have HB1 := Lib.hid hb1
    clear hx hb1
    rw [HF.out]
    go_wp2_with fail
    refine (awake_any _).mono ?_
    rintro e w6 ⟨rfl, hb6⟩
    have B6 := Lib.hid (ext_trans HB1.out hb6)
    clear hb6
    go_wp2
    go_ret
    exact ⟨rfl, B6.out⟩
  · have l1 : base.length ≤ 3000 := by omega
    have l2 : b.length ≤ 3000 := by omega
    have hf : deltaFault base b = 0 := if_neg hbig
    have ho : deltaOut base b = deltaL base b := if_neg hbig
    have hrb := rb_back l1 l2
    obtain ⟨hr1, hr2⟩ := hrb
    have HR1 := Lib.hid hr1
    have HR2 := Lib.hid hr2
    have HF := Lib.hid hf
    have HO := Lib.hid ho
    have hdb := db_back l1 l2
    have HRG := Lib.hid (deltaL_range l1 l2)
    have hll := deltaL_len (base := base) (b := b)
    have HFT := Lib.hid (deltaL_fits (base := base) l2)
    clear hf ho hbig hr1 hr2
    go_enter Try.func10, Try.ntmps10
    go_wp2_with fail
    refine (Delta_any _ _ base b w H0.out H1.out).mono ?_
    rintro e w1 ⟨x, rfl, hx, hb1⟩
    rw [HO.out] at hx
    have HX := Lib.hid hx
    have HB1 := Lib.hid hb1
    clear hx hb1
    rw [HF.out]
    go_wp2_with fail
    refine (rebuilt_any _ _ base (deltaL base b) w1 (Rp.ext _ H0.out HB1.out) HX.out HFT.out).mono ?_
    rintro e w2 ⟨y, rfl, hy, hb2⟩
    rw [HR2.out] at hy
    rw [HR1.out]
    have HY := Lib.hid hy
    have HX2 := Lib.hid (Rp.ext _ HX.out hb2)
    have HB2 := Lib.hid (ext_trans HB1.out hb2)
    clear hy hb2
    go_wp2_with fail
    refine (eqBytes_any _ _ b b w2 _ _ HY.out (Rp.ext _ H1.out HB2.out)).mono ?_
    rintro e w3 ⟨rfl, n, rfl⟩
    rw [decide_eq_true rfl]
    have HX3 := Lib.hid (Rp.drewN _ HX2.out n)
    have HB3 := Lib.hid (below_drewN HB2.out n)
    go_wp2_with fail
    refine (awake_any _).mono ?_
    rintro e w4 ⟨rfl, hb4⟩
    have HX4 := Lib.hid (Rp.ext _ HX3.out hb4)
    have HB4 := Lib.hid (ext_trans HB3.out hb4)
    clear hb4
    go_wp2_with fail
    refine (deltaBytesTop_any _ _ w4 HX4.out).mono ?_
    rintro e w5 ⟨z, rfl, hz, hb5⟩
    have HB5 := Lib.hid (ext_trans HB4.out hb5)
    have HX5 := Lib.hid (Rp.ext _ HX4.out hb5)
    rcases hdb with h | h
    · have hz2 : dbOut (deltaL base b) = dBytes (deltaL base b) := by rw [dbOut, if_pos h]
      have hsm : (dBytes (deltaL base b)).length ≤ 20000 := by
        unfold dbFault at h
        split at h
        · cases h
        · split at h
          · rename_i q; exact absurd h q
          · split at h
            · cases h
            · omega
      have hrd := rd_res HRG.out (by omega) hsm
      obtain ⟨r1, r2, r3⟩ := hrd
      have R1 := Lib.hid r1
      have R2 := Lib.hid r2
      have R3 := Lib.hid r3
      rw [hz2] at hz
      have HZ := Lib.hid (Rp.sub _ hz (T := fun k => k < w5.heap.size) (fun k hk => hk.2))
      rw [h]
      clear hz hb5 hz2 r1 r2 r3 h hsm
      go_wp2_with fail
      refine (readDelta_any _ _ w5 HZ.out).mono ?_
      rintro e w6 ⟨m, rfl, hm, hb6⟩
      rw [R3.out] at hm
      rw [R1.out, R2.out]
      have HM := Lib.hid hm
      have HX6 := Lib.hid (Rp.ext _ HX5.out hb6)
      have HB6 := Lib.hid (ext_trans HB5.out hb6)
      clear hm hb6
      go_wp2_with fail
      refine (sameCopies_any _ _ (deltaL base b) (deltaL base b) w6 _ _ HX6.out HM.out).mono ?_
      rintro e w7 ⟨rfl, n7, rfl⟩
      rw [decide_eq_true rfl]
      have HB7 := Lib.hid (below_drewN HB6.out n7)
      go_wp2
      go_ret
      exact ⟨rfl, HB7.out⟩
    · rw [h]
      clear hz hb5 h
      go_wp2
      go_ret
      exact ⟨rfl, HB5.out⟩
end Go.Proofs.Ytofahmdjhpbecaa
