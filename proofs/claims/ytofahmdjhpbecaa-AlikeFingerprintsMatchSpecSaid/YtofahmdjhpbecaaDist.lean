/-
  'Distance' of both packages, 'OnesCount64'.
-/
import Derived.Test.YtofahmdjhpbecaaProg
import Derived.Test.YtofahmdjhpbecaaBase
import Derived.Test.YtofahmdjhpbecaaPop
namespace Go.Proofs.Ytofahmdjhpbecaa
open Go.RowKit
set_option linter.unusedVariables false
set_option linter.unusedSimpArgs false

theorem wrap_nat {x : Nat} (h : x < 18446744073709551616) : IntKind.u64.wrap (x : Int) = x := IntWalk.u64_in _ ⟨by omega, by omega⟩
theorem and_nat (a b : Nat) (ha : a < 18446744073709551616) (hb : b < 18446744073709551616) : bits BinOp.and IntKind.u64 (a : Int) (b : Int) = ((a &&& b : Nat) : Int) := bits_and_u64_nat a b ha hb
theorem e1 {x : Nat} (hx : x < 18446744073709551616) (h : Pop.s1 x < 18446744073709551616) : IntKind.u64.wrap (bits BinOp.and IntKind.u64 ((x : Int) / 2) 6148914691236517205 + bits BinOp.and IntKind.u64 (x : Int) 6148914691236517205) = (Pop.s1 x : Int) := by
  have a1 := and_nat (x / 2) 6148914691236517205 (by omega) (by omega)
  have a2 := and_nat x 6148914691236517205 hx (by omega)
  rw [show ((x / 2 : Nat) : Int) = (x : Int) / 2 by omega] at a1
  have a3 := wrap_nat h
  rw [Pop.s1, Int.natCast_add, ← a1, ← a2] at a3
  rw [Pop.s1, Int.natCast_add, ← a1, ← a2]; exact a3
theorem e2 {x : Nat} (hx : x < 18446744073709551616) (h : Pop.s2 x < 18446744073709551616) : IntKind.u64.wrap (bits BinOp.and IntKind.u64 ((x : Int) / 4) 3689348814741910323 + bits BinOp.and IntKind.u64 (x : Int) 3689348814741910323) = (Pop.s2 x : Int) := by
  have a1 := and_nat (x / 4) 3689348814741910323 (by omega) (by omega)
  have a2 := and_nat x 3689348814741910323 hx (by omega)
  rw [show ((x / 4 : Nat) : Int) = (x : Int) / 4 by omega] at a1
  have a3 := wrap_nat h
  rw [Pop.s2, Int.natCast_add, ← a1, ← a2] at a3
  rw [Pop.s2, Int.natCast_add, ← a1, ← a2]; exact a3
theorem e3 {x : Nat} (hx : x ≤ 7378697629483820646) : bits BinOp.and IntKind.u64 (IntKind.u64.wrap ((x : Int) / 16 + x)) 1085102592571150095 = (Pop.s3 x : Int) := by
  have a1 := and_nat (x / 16 + x) 1085102592571150095 (by omega) (by omega)
  have a3 := wrap_nat (x := x / 16 + x) (by omega)
  rw [show ((x / 16 + x : Nat) : Int) = (x : Int) / 16 + x by omega] at a1 a3
  rw [a3]; exact a1
theorem e4 {x : Nat} (h : Pop.s4 x < 18446744073709551616) : IntKind.u64.wrap ((x : Int) + (x : Int) / 256) = (Pop.s4 x : Int) := by
  have a3 := wrap_nat h
  have : ((Pop.s4 x : Nat) : Int) = (x : Int) + (x : Int) / 256 := by unfold Pop.s4; omega
  rw [this] at a3 ⊢; exact a3
theorem e5 {x : Nat} (h : Pop.s5 x < 18446744073709551616) : IntKind.u64.wrap ((x : Int) + (x : Int) / 65536) = (Pop.s5 x : Int) := by
  have a3 := wrap_nat h
  have : ((Pop.s5 x : Nat) : Int) = (x : Int) + (x : Int) / 65536 := by unfold Pop.s5; omega
  rw [this] at a3 ⊢; exact a3
theorem e6 {x : Nat} (h : Pop.s6 x < 18446744073709551616) : IntKind.u64.wrap ((x : Int) + (x : Int) / 4294967296) = (Pop.s6 x : Int) := by
  have a3 := wrap_nat h
  have : ((Pop.s6 x : Nat) : Int) = (x : Int) + (x : Int) / 4294967296 := by unfold Pop.s6; omega
  rw [this] at a3 ⊢; exact a3
theorem e7 {x : Nat} (h : x ≤ 4629771061636907072) : bits BinOp.and IntKind.i64 (wrap64 (x : Int)) 127 = ((x % 128 : Nat) : Int) := by
  have hw : wrap64 (x : Int) = x := IntWalk.wrap64_in _ ⟨by omega, by omega⟩
  rw [hw]
  exact bits_mask .i64 63 (by decide) (fun n h0 h1 => IntWalk.i64_in n ⟨by omega, by omega⟩) 7 (by decide) x (by omega) (by omega)

set_option maxRecDepth 100000 in
set_option maxHeartbeats 1000000 in
theorem ones_any (n : Nat) (w : World) (h : n < 18446744073709551616) :
    Calls Try.prog 70 #[.int .u64 n] w fun e w' => e = .returned (.int .i64 (Pop.pc n)) ∧ w = w' := by
  obtain ⟨h1, h2, h3, h4, h5, h6, h7⟩ := Pop.swar n h
  have g1 := Lib.hid (e1 h (by omega))
  have g2 := Lib.hid (e2 (x := Pop.s1 n) (by omega) (by omega))
  have g3 := Lib.hid (e3 h2)
  have g4 := Lib.hid (e4 (x := Pop.s3 (Pop.s2 (Pop.s1 n))) (by omega))
  have g5 := Lib.hid (e5 (x := Pop.s4 (Pop.s3 (Pop.s2 (Pop.s1 n)))) (by omega))
  have g6 := Lib.hid (e6 (x := Pop.s5 (Pop.s4 (Pop.s3 (Pop.s2 (Pop.s1 n))))) (by omega))
  have g7 := Lib.hid (e7 h6)
  have H7 := Lib.hid h7
  clear h7
  go_enter Try.func70, Try.ntmps70
  go_wp2
  rw [g1.out, g2.out, g3.out, g4.out, g5.out, g6.out, g7.out, H7.out]
  go_ret
  exact ⟨rfl, rfl⟩

theorem xor_u64 (a b : Nat) (ha : a < 18446744073709551616) (hb : b < 18446744073709551616) : a ^^^ b < 18446744073709551616 := Nat.xor_lt_two_pow (n := 64) ha hb
set_option maxRecDepth 100000 in
set_option maxHeartbeats 1000000 in
theorem distance_any (a b : Nat) (w : World) (ha : a < 18446744073709551616) (hb : b < 18446744073709551616) :
    Calls Try.prog 31 #[.int .u64 a, .int .u64 b] w fun e w' => e = .returned (.int .i64 (Pop.pc (a ^^^ b))) ∧ w = w' := by
  have hx := bits_xor_u64_nat a b ha hb
  have hlt := xor_u64 a b ha hb
  have HC := Lib.hid (ones_any (a ^^^ b) w hlt)
  go_enter Try.func31, Try.ntmps31
  go_wp2_with fail
  refine HC.out.mono ?_
  rintro e w' ⟨rfl, rfl⟩
  go_wp2
  go_ret
  exact ⟨rfl, rfl⟩
set_option maxRecDepth 100000 in
set_option maxHeartbeats 1000000 in
theorem refDistance_any (a b : Nat) (w : World) (ha : a < 18446744073709551616) (hb : b < 18446744073709551616) :
    Calls Try.prog 32 #[.int .u64 a, .int .u64 b] w fun e w' => e = .returned (.int .i64 (Pop.pc (a ^^^ b))) ∧ w = w' := by
  have hx := bits_xor_u64_nat a b ha hb
  have hlt := xor_u64 a b ha hb
  obtain ⟨X, hX⟩ : ∃ X, a ^^^ b = X := ⟨_, rfl⟩
  rw [hX] at hx hlt ⊢
  clear hX
  go_enter Try.func32, Try.ntmps32
  go_wp2
  go_loop [5, 6] (fun n x => ∃ k : Nat, k ≤ 64 ∧ x = .int .u64 ((X / 2 ^ k : Nat) : Int) ∧ n = .int .i64 (((Pop.bitsL k X).sum : Nat) : Int)) (fun _ x => (intOf x).toNat)
  case atStart => exact ⟨0, by omega, by simp, rfl⟩
  case round =>
    obtain ⟨k, hk, rfl, rfl⟩ := hrel
    have hs := Pop.bits_le k X
    have hstep := Pop.bits_add k 1 X
    have hend := Pop.bits_add k (64 - k) X
    have hd : X / 2 ^ (k + 1) = X / 2 ^ k / 2 := by rw [Nat.pow_succ, Nat.div_div_eq_div_mul]
    have hq : X / 2 ^ k ≤ X := Nat.div_le_self _ _
    have h64 : k = 64 → X / 2 ^ k = 0 := fun e => by subst e; exact Nat.div_eq_of_lt hlt
    have h1 : (Pop.bitsL 1 (X / 2 ^ k)).sum = X / 2 ^ k % 2 := by simp [Pop.bitsL]
    rw [h1] at hstep
    generalize hY : X / 2 ^ k = Y at *
    by_cases hz : Y = 0
    · subst hz
      have hfin : (Pop.bitsL k X).sum = Pop.pc X := by
        rw [Pop.bits_zero, show k + (64 - k) = 64 by omega] at hend
        unfold Pop.pc; omega
      have HF := Lib.hid hfin
      clear hfin hend hstep hd h64 hY h1
      go_wp2
      go_ret
      exact ⟨by rw [HF.out]; rfl, rfl⟩
    · have hk2 : k < 64 := by
        rcases Nat.lt_or_ge k 64 with h | h
        · exact h
        · exact absurd (h64 (by omega)) hz
      have hm : bits BinOp.and IntKind.u64 (Y : Int) 1 = ((Y % 2 : Nat) : Int) := bits_mask .u64 64 (by decide) (fun n h0 h1 => IntWalk.u64_in n ⟨h0, by omega⟩) 1 (by decide) Y (by omega) (by omega)
      have HS := Lib.hid hstep
      have HD := Lib.hid hd
      clear hend hstep hd h64 hY h1
      go_wp2
      go_round
      case rel => exact ⟨k + 1, by omega, by rw [HD.out]; go_num, by rw [HS.out]; go_num⟩
      case measure => simp [intOf]; omega

end Go.Proofs.Ytofahmdjhpbecaa
