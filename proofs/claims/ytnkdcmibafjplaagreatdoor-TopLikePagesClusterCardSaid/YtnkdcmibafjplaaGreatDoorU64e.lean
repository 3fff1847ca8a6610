/-
  slices.Sort's family at uint64, part 5: the patterns, pdqsort, Sort.
-/
import Derived.Test.YtnkdcmibafjplaaGreatDoorU64b
import Derived.Test.YtnkdcmibafjplaaGreatDoorU64c
import Derived.Test.YtnkdcmibafjplaaGreatDoorU64d
import Derived.Sort.Walk13
import Derived.Sort.LotD3
import Derived.Sort.LotD5
import Derived.Deep.Cut
import Derived.Deep.CutRange
import Derived.Deep.CutBlock
import Derived.Shelf.Small.Bits
namespace Go.Proofs.YtnkdcmibafjplaaGreatDoor
open Go.Shelf Go.RowKit Go.Lib Go.Sort
set_option linter.unusedVariables false
set_option linter.unusedSimpArgs false

/-! ### The generator's cell: of a block laid since the sort began -/
def RndU (w0 : World) (blk off : Nat) (dk : Array Int) (c s : Nat) (W : World) : Prop :=
  SW encU w0 blk off dk W ∧ W.cell? ⟨c, 0, none⟩ = some (.int .u64 s) ∧ W.frozen? ⟨c, 0, none⟩ = false ∧ w0.heap.size ≤ c
theorem RndU.next {w0 : World} {blk off c s : Nat} {dk : Array Int} {W : World} (h : RndU w0 blk off dk c s W) (t q : Nat) : RndU w0 blk off dk c t ((W.setCell ⟨c, 0, none⟩ (.int .u64 t)).drewN q) :=
  ⟨SW.drewN (SW.setCell_new h.1 c 0 _ h.2.2.2) q, World.cell?_setCell_same' _ _ _ (by rw [h.2.1]; rfl), (World.frozen?_setCell _ _ _ _).trans h.2.2.1, h.2.2.2⟩
theorem RndU.start {w0 : World} {blk off : Nat} {dk : Array Int} {W : World} (h : SW encU w0 blk off dk W) (T : TypeId) (s : Nat) : RndU w0 blk off dk W.heap.size s (W.alloc (.cells #[.int .u64 s] T)) :=
  ⟨SW.alloc h _, by simp, by simp, SW.le h⟩
theorem rnd_swap {W : World} {blk c : Nat} {v : Value} (hne : c ≠ blk) (hc : W.cell? ⟨c, 0, none⟩ = some v) (hf : W.frozen? ⟨c, 0, none⟩ = false) (x y : Nat) (u u' : Value) :
    ((W.setCell ⟨blk, x, none⟩ u).setCell ⟨blk, y, none⟩ u').drew.cell? ⟨c, 0, none⟩ = some v ∧ ((W.setCell ⟨blk, x, none⟩ u).setCell ⟨blk, y, none⟩ u').drew.frozen? ⟨c, 0, none⟩ = false :=
  ⟨by show ((W.setCell ⟨blk, x, none⟩ u).setCell ⟨blk, y, none⟩ u').cell? _ = _; rw [World.cell?_setCell_other _ _ _ _ (by intro e; simp only [Addr.mk.injEq] at e; exact hne e.1.symm), World.cell?_setCell_other _ _ _ _ (by intro e; simp only [Addr.mk.injEq] at e; exact hne e.1.symm)]; exact hc, by show ((W.setCell ⟨blk, x, none⟩ u).setCell ⟨blk, y, none⟩ u').frozen? _ = _; rw [World.frozen?_setCell, World.frozen?_setCell]; exact hf⟩
set_option maxHeartbeats 8000000 in
set_option maxRecDepth 1000000 in
theorem break64 (n blk off cap a b : Nat) (d0 d : Array Int) (w0 w : World) (R : RowU w0 blk off d0) (hs0 : d0.size = n) (hs : d.size = n) (S : SW encU w0 blk off d w) (hsz : n < 4611686018427387904) (hab : a ≤ b) (hb : b ≤ n) :
    Calls Tryz.prog 126 #[.slice (some ⟨blk, off, none⟩) n cap, .int .i64 a, .int .i64 b] w fun e w' => e = .returned (.tuple #[]) ∧ SW encU w0 blk off (breakPatterns d a b) w' := by
  by_cases h8 : b - a < 8
  · have HF : Hid (breakPatterns d a b = d) := Lib.hid (by unfold breakPatterns; dsimp only; rw [if_neg (by omega)])
    have h8z : ¬ (8 : Int) ≤ (b : Int) - (a : Int) := by omega
    have rl : IntKind.i64.wrap ((b : Int) - (a : Int)) = (b : Int) - (a : Int) := by rw [IntKind.wrap_i64]; omega
    have S0 := Lib.hid S
    clear S
    go_enter Tryz.func126, Tryz.ntmps126
    go_wp2_with fail
    go_end0
    exact ⟨rfl, by rw [HF.out]; exact S0.out⟩
  obtain ⟨L, hL⟩ : ∃ L, b = a + L := ⟨b - a, by omega⟩
  subst hL
  have hL8 : 8 ≤ L := by omega
  rw [breakPatterns_eq d a L hL8]
  obtain ⟨M, hM⟩ : ∃ M : Nat, M = 1 <<< bitsLen L := ⟨_, rfl⟩
  have hM1 : 1 ≤ M := by rw [hM, Nat.one_shiftLeft]; exact Nat.two_pow_pos _
  have hM2 : M ≤ 2 * L := by rw [hM, Nat.one_shiftLeft]; exact two_pow_bitsLen_le (by omega)
  have hNP : ∀ w, Calls Tryz.prog 161 #[.int .i64 (L : Int)] w fun e w' => e = .returned (.int .u64 (M : Int)) ∧ w' = w := by rw [hM]; exact fun w => AnyF.nextPowerOfTwo npTwo L (by omega) w
  rw [← hM]
  have HNP := Lib.hid hNP
  clear hM hNP h8
  have mixed : Tryz.prog.follows .mixedOrders = true := by kernel_rfl
  have R0 := Lib.hid (RndU.start S 226 L)
  clear S
  obtain ⟨rb, hrb⟩ : ∃ rb, rb = w.heap.size := ⟨_, rfl⟩
  have HRW := Lib.hid hrb
  rw [← hrb] at R0
  clear hrb
  have HRB : Hid (w0.heap.size ≤ rb) := Lib.hid R0.out.2.2.2
  have HNE : Hid (rb ≠ blk) := Lib.hid (by have := R.hblk; have := HRB.out; omega)
  have hbl : (((a + L : Nat) : Int) - (a : Int)) = (L : Int) := by omega
  have hbl2 : (a : Int) + (L : Int) - (a : Int) = (L : Int) := by omega
  have rl : IntKind.i64.wrap (L : Int) = (L : Int) := by rw [IntKind.wrap_i64]; omega
  have ru : IntKind.u64.wrap (L : Int) = (L : Int) := by rw [IntKind.wrap_u64]; omega
  have hL8z : (8 : Int) ≤ (L : Int) := by omega
  obtain ⟨I0, hI0⟩ : ∃ I0, I0 = a + L / 4 * 2 - 1 := ⟨_, rfl⟩
  have eI : (a : Int) + (L : Int) / 4 * 2 - 1 = (I0 : Int) := by omega
  have eI2 : (a : Int) + (L : Int) / 4 * 2 + 1 = (I0 : Int) + 2 := by omega
  have wI : IntKind.i64.wrap ((L : Int) / 4 * 2) = (L : Int) / 4 * 2 := by rw [IntKind.wrap_i64]; omega
  have wI2 : IntKind.i64.wrap ((a : Int) + (L : Int) / 4 * 2) = (a : Int) + (L : Int) / 4 * 2 := by rw [IntKind.wrap_i64]; omega
  have wI3 : IntKind.i64.wrap (I0 : Int) = (I0 : Int) := by rw [IntKind.wrap_i64]; omega
  have wI4 : IntKind.i64.wrap ((I0 : Int) + 2) = (I0 : Int) + 2 := by rw [IntKind.wrap_i64]; omega
  have hIb : a ≤ I0 ∧ I0 + 3 ≤ a + L := by omega
  have HI0 := Lib.hid hI0
  rw [← hI0]
  clear hI0
  go_enter Tryz.func126, Tryz.ntmps126
  go_wp2_with (go_at_call 161; (try rw [hbl2]); refine (HNP.out _).mono ?_; rintro e w' ⟨rfl, rfl⟩)
  try rw [← HRW.out]
  generalize w.alloc (.cells #[.int .u64 (L : Int)] 226) = wa at *
  go_loopw [9] (fun vi wr => ∃ (t : Nat) (r : UInt64) (dk : Array Int), vi = .int .i64 ((I0 + t : Nat) : Int) ∧ t ≤ 3 ∧ dk.size = n ∧ Hid (RndU w0 blk off dk rb r.toNat wr) ∧ Hid (bpRest a L M I0 (3 - t) t (r, dk) = bpRest a L M I0 3 0 (UInt64.ofNat L, d))) (fun vi _ => I0 + 3 - (intOf vi).toNat)
  case atStart => exact ⟨0, UInt64.ofNat L, d, by first | rfl | (congr 1; omega), by omega, hs, by rw [show (UInt64.ofNat L).toNat = L from by simp; omega]; exact R0, rfl⟩
  case round =>
    clear R0
    obtain ⟨t, r, dk, rfl, ht, hsk, R1, HO⟩ := hrel
    by_cases ht3 : t < 3
    case neg =>
      obtain rfl : t = 3 := by omega
      have hgz : ¬ ((I0 + 3 : Nat) : Int) ≤ (I0 : Int) + 2 := by omega
      have hgz2 : ¬ (I0 : Int) + 3 ≤ (I0 : Int) + 2 := by omega
      go_wp2_with fail
      go_end0
      exact ⟨rfl, by rw [← HO.out]; exact R1.out.1⟩
    obtain ⟨I, hI⟩ : ∃ I, I = I0 + t := ⟨_, rfl⟩
    have HII := Lib.hid hI
    have hIl : a ≤ I ∧ I < a + L := by omega
    rw [← hI]
    have hgz : (I : Int) ≤ (I0 : Int) + 2 := by omega
    clear hI
    obtain ⟨R', hR'⟩ : ∃ R' : Nat, R' = xorNextN r.toNat := ⟨_, rfl⟩
    have lR : r.toNat < 18446744073709551616 := r.toNat_lt
    have lR' : R' < 18446744073709551616 := by rw [hR']; exact xorNextN_lt _ lR
    obtain ⟨X, hX⟩ : ∃ X : Nat, X = R' := ⟨_, rfl⟩
    have HX : Hid (X = (xorNext r).toNat) := Lib.hid (by rw [hX, hR', xorNext_toNat])
    have hNext := AnyF.xorshift_Next xsNext rb 0 r.toNat lR wr R1.out.2.1 R1.out.2.2.1
    rw [← hR', ← hX] at hNext
    have R4' := Lib.hid (R1.out.next X 3)
    have HNX := Lib.hid hNext
    rw [← hX] at lR'
    clear hX hR' hNext R1 lR
    obtain ⟨O, hO⟩ : ∃ O : Nat, O = X &&& (M - 1) := ⟨_, rfl⟩
    have lO : O ≤ M - 1 := by rw [hO]; exact Nat.and_le_right
    have eM : IntKind.u64.wrap ((M : Int) - 1) = (M : Int) - 1 := by rw [IntKind.wrap_u64]; omega
    have eAnd : bits .and .u64 (X : Int) ((M : Int) - 1) = (O : Int) := by
      rw [show ((M : Int) - 1) = ((M - 1 : Nat) : Int) by omega, bits_and_u64_nat _ _ lR' (by omega), hO]
    have rO : IntKind.i64.wrap (O : Int) = (O : Int) := by rw [IntKind.wrap_i64]; omega
    have HOO : Hid (O = (xorNext r).toNat &&& (M - 1)) := Lib.hid (by rw [hO, HX.out])
    clear hO
    by_cases hLO : L ≤ O
    · have hLOz : (L : Int) ≤ (O : Int) := by omega
      have rOL : IntKind.i64.wrap ((O : Int) - (L : Int)) = (O : Int) - (L : Int) := by rw [IntKind.wrap_i64]; omega
      go_wp2_with (go_at_call 162; refine HNX.out.mono ?_; rintro e w4 ⟨rfl, rfl⟩)
      obtain ⟨w4, hw4⟩ : ∃ w4, w4 = (wr.setCell ⟨rb, 0, none⟩ (.int .u64 (X : Int))).drewN 3 := ⟨_, rfl⟩
      rw [← hw4] at R4' ⊢
      have R4 := R4'
      have S4 : Hid (SW encU w0 blk off dk w4) := Lib.hid R4.out.1
      clear hw4 R4'
      obtain ⟨O2, hO2⟩ : ∃ O2, O2 = O - L := ⟨_, rfl⟩
      have hO2z : (O : Int) - (L : Int) = (O2 : Int) := by omega
      rw [hO2z]
      have HO2 := Lib.hid hO2
      have hO2b : O2 < L := by omega
      clear hO2
      obtain ⟨iN, hiN⟩ : ∃ zz, zz = I := ⟨_, rfl⟩
      obtain ⟨jN, hjN⟩ : ∃ zz, zz = a + O2 := ⟨_, rfl⟩
      have ei : ((I : Int) : Int).toNat = iN := by omega
      have pi : (0 : Int) ≤ ((I : Int) : Int) := by omega
      have bi : ((I : Int) : Int) < (n : Int) := by omega
      have ri : IntKind.i64.wrap ((I : Int) : Int) = ((I : Int) : Int) := by rw [IntKind.wrap_i64]; omega
      have ej : ((a : Int) + (O2 : Int) : Int).toNat = jN := by omega
      have pj : (0 : Int) ≤ ((a : Int) + (O2 : Int) : Int) := by omega
      have bj : ((a : Int) + (O2 : Int) : Int) < (n : Int) := by omega
      have rj : IntKind.i64.wrap ((a : Int) + (O2 : Int) : Int) = ((a : Int) + (O2 : Int) : Int) := by rw [IntKind.wrap_i64]; omega
      obtain ⟨x, hx⟩ : ∃ zz, zz = dk[I]! := ⟨_, rfl⟩
      obtain ⟨y, hy⟩ : ∃ zz, zz = dk[a + O2]! := ⟨_, rfl⟩
      have S5 : Hid (SW encU w0 blk off (swp dk (I) (a + O2)) ((w4.setCell ⟨blk, off + iN, none⟩ (.int .u64 y)).setCell ⟨blk, off + jN, none⟩ (.int .u64 x)).drew) := Lib.hid (by rw [hiN, hjN, hx, hy]; exact swsw S4.out R (I) (a + O2) (by omega) (by omega))
      have HCR : Hid (((w4.setCell ⟨blk, off + iN, none⟩ (.int .u64 y)).setCell ⟨blk, off + jN, none⟩ (.int .u64 x)).drew.cell? ⟨rb, 0, none⟩ = some (.int .u64 X) ∧ ((w4.setCell ⟨blk, off + iN, none⟩ (.int .u64 y)).setCell ⟨blk, off + jN, none⟩ (.int .u64 x)).drew.frozen? ⟨rb, 0, none⟩ = false) := Lib.hid (rnd_swap HNE.out R4.out.2.1 R4.out.2.2.1 _ _ _ _)
      have ca := swc S4.out R (by omega) (I) (by omega)
      have cb := swc S4.out R (by omega) (a + O2) (by omega)
      have fa := swf S4.out R (by omega) (I) (by omega)
      have fb := swf S4.out R (by omega) (a + O2) (by omega)
      obtain ⟨u, cc⟩ := swc2 S4.out R (by omega) (I) (a + O2) (by omega) (by omega) (.int .u64 y)
      rw [← hjN, ← hiN] at cc
      rw [← hx, ← hiN] at ca
      rw [← hy, ← hjN] at cb
      rw [← hiN] at fa
      rw [← hjN] at fb
      clear S4 hx hy hiN hjN
      go_wp2_with fail
      go_big_region_o
      clear ca cb cc fa fb
      generalize ((w4.setCell ⟨blk, off + iN, none⟩ (.int .u64 y)).setCell ⟨blk, off + jN, none⟩ (.int .u64 x)).drew = w5 at S5 HCR ⊢
      clear ei pi bi ri ej pj bj rj
      go_wp2_with fail
      go_roundw
      case rel => exact ⟨t + 1, xorNext r, swp dk I (a + O2), by have hii := HII.out; first | rfl | (congr 1; omega), by omega, by rw [size_swp]; exact hsk, Lib.hid ⟨S5.out, by rw [← HX.out]; exact HCR.out.1, HCR.out.2, HRB.out⟩, Lib.hid (by rw [← HO.out, bp_step a L M I0 t r dk (O2) (by omega) (by rw [← HOO.out, if_pos (by omega), HO2.out]), ← HII.out])⟩
      case measure => first | (simp [intOf]; done) | (simp [intOf]; omega)
    · have hLOz : ¬ (L : Int) ≤ (O : Int) := by omega
      go_wp2_with (go_at_call 162; refine HNX.out.mono ?_; rintro e w4 ⟨rfl, rfl⟩)
      obtain ⟨w4, hw4⟩ : ∃ w4, w4 = (wr.setCell ⟨rb, 0, none⟩ (.int .u64 (X : Int))).drewN 3 := ⟨_, rfl⟩
      rw [← hw4] at R4' ⊢
      have R4 := R4'
      have S4 : Hid (SW encU w0 blk off dk w4) := Lib.hid R4.out.1
      clear hw4 R4'
      obtain ⟨iN, hiN⟩ : ∃ zz, zz = I := ⟨_, rfl⟩
      obtain ⟨jN, hjN⟩ : ∃ zz, zz = a + O := ⟨_, rfl⟩
      have ei : ((I : Int) : Int).toNat = iN := by omega
      have pi : (0 : Int) ≤ ((I : Int) : Int) := by omega
      have bi : ((I : Int) : Int) < (n : Int) := by omega
      have ri : IntKind.i64.wrap ((I : Int) : Int) = ((I : Int) : Int) := by rw [IntKind.wrap_i64]; omega
      have ej : ((a : Int) + (O : Int) : Int).toNat = jN := by omega
      have pj : (0 : Int) ≤ ((a : Int) + (O : Int) : Int) := by omega
      have bj : ((a : Int) + (O : Int) : Int) < (n : Int) := by omega
      have rj : IntKind.i64.wrap ((a : Int) + (O : Int) : Int) = ((a : Int) + (O : Int) : Int) := by rw [IntKind.wrap_i64]; omega
      obtain ⟨x, hx⟩ : ∃ zz, zz = dk[I]! := ⟨_, rfl⟩
      obtain ⟨y, hy⟩ : ∃ zz, zz = dk[a + O]! := ⟨_, rfl⟩
      have S5 : Hid (SW encU w0 blk off (swp dk (I) (a + O)) ((w4.setCell ⟨blk, off + iN, none⟩ (.int .u64 y)).setCell ⟨blk, off + jN, none⟩ (.int .u64 x)).drew) := Lib.hid (by rw [hiN, hjN, hx, hy]; exact swsw S4.out R (I) (a + O) (by omega) (by omega))
      have HCR : Hid (((w4.setCell ⟨blk, off + iN, none⟩ (.int .u64 y)).setCell ⟨blk, off + jN, none⟩ (.int .u64 x)).drew.cell? ⟨rb, 0, none⟩ = some (.int .u64 X) ∧ ((w4.setCell ⟨blk, off + iN, none⟩ (.int .u64 y)).setCell ⟨blk, off + jN, none⟩ (.int .u64 x)).drew.frozen? ⟨rb, 0, none⟩ = false) := Lib.hid (rnd_swap HNE.out R4.out.2.1 R4.out.2.2.1 _ _ _ _)
      have ca := swc S4.out R (by omega) (I) (by omega)
      have cb := swc S4.out R (by omega) (a + O) (by omega)
      have fa := swf S4.out R (by omega) (I) (by omega)
      have fb := swf S4.out R (by omega) (a + O) (by omega)
      obtain ⟨u, cc⟩ := swc2 S4.out R (by omega) (I) (a + O) (by omega) (by omega) (.int .u64 y)
      rw [← hjN, ← hiN] at cc
      rw [← hx, ← hiN] at ca
      rw [← hy, ← hjN] at cb
      rw [← hiN] at fa
      rw [← hjN] at fb
      clear S4 hx hy hiN hjN
      go_wp2_with fail
      go_big_region_o
      clear ca cb cc fa fb
      generalize ((w4.setCell ⟨blk, off + iN, none⟩ (.int .u64 y)).setCell ⟨blk, off + jN, none⟩ (.int .u64 x)).drew = w5 at S5 HCR ⊢
      clear ei pi bi ri ej pj bj rj
      go_wp2_with fail
      go_roundw
      case rel => exact ⟨t + 1, xorNext r, swp dk I (a + O), by have hii := HII.out; first | rfl | (congr 1; omega), by omega, by rw [size_swp]; exact hsk, Lib.hid ⟨S5.out, by rw [← HX.out]; exact HCR.out.1, HCR.out.2, HRB.out⟩, Lib.hid (by rw [← HO.out, bp_step a L M I0 t r dk (O) (by omega) (by rw [← HOO.out, if_neg (by omega)]), ← HII.out])⟩
      case measure => first | (simp [intOf]; done) | (simp [intOf]; omega)
theorem swo64 : SWO ltInt := swo_ltInt
theorem pdq_ok64 : pdq_stmt ltInt := pdq_holds insertionSort_holds heapSort_holds partialInsertionSort_holds (partition_holds ltInt) (partitionEqual_holds ltInt) reverseRange_holds
set_option maxHeartbeats 16000000 in
set_option maxRecDepth 1000000 in
theorem pdq64 (n blk off cap : Nat) (d0 : Array Int) (w0 : World) (R : RowU w0 blk off d0) (hs0 : d0.size = n) (hsz : n < 4611686018427387904) : ∀ (N a b limit : Nat) (d : Array Int) (w : World), b - a < N → d.size = n → SW encU w0 blk off d w → a ≤ b → b ≤ n → limit < 4611686018427387904 → Go.Sort.Below ltInt a b d →
    Calls Tryz.prog 81 #[.slice (some ⟨blk, off, none⟩) n cap, .int .i64 a, .int .i64 b, .int .i64 limit] w fun e w' => e = .returned (.tuple #[]) ∧ SW encU w0 blk off (pdq ltInt d a b limit true true) w' := by
  intro N
  induction N with
  | zero => intro _ _ _ _ _ h; exact absurd h (Nat.not_lt_zero _)
  | succ N ih =>
    intro a b limit d w hN hs S hab hb hlimit hBel0
    have mixed : Tryz.prog.follows .mixedOrders = true := by kernel_rfl
    have IH := Lib.hid ih
    have S0 := Lib.hid S
    have HB0 := Lib.hid hBel0
    clear ih S hBel0
    go_enter Tryz.func81, Tryz.ntmps81
    go_wp2_with fail
    go_loopw [1, 2, 3, 8, 9] (fun s1 s2 s3 s8 s9 wr => ∃ (a' b' lim : Nat) (wb wp : Bool) (dk : Array Int), s1 = .int .i64 a' ∧ s2 = .int .i64 b' ∧ s3 = .int .i64 lim ∧ s8 = .bool wb ∧ s9 = .bool wp ∧
        a' ≤ b' ∧ b' ≤ n ∧ b' - a' ≤ b - a ∧ lim ≤ limit ∧ dk.size = n ∧ Hid (Go.Sort.Below ltInt a' b' dk) ∧ Hid (SW encU w0 blk off dk wr) ∧ Hid (pdq ltInt dk a' b' lim wb wp = pdq ltInt d a b limit true true)) (fun s1 s2 _ _ _ _ => (intOf s2 - intOf s1).toNat)
    case atStart => exact ⟨a, b, limit, true, true, d, rfl, rfl, rfl, rfl, rfl, hab, hb, Nat.le_refl _, Nat.le_refl _, hs, HB0, S0, rfl⟩
    case round =>
      clear S0 HB0
      obtain ⟨a', b', lim, wb, wp, dk, rfl, rfl, rfl, rfl, rfl, hab', hb', hkN, hlim, hds, HBel, S1, HE⟩ := hrel
      have rl : IntKind.i64.wrap ((b' : Int) - (a' : Int)) = (b' : Int) - (a' : Int) := by rw [IntKind.wrap_i64]; omega
      by_cases h12 : b' - a' ≤ 12
      · have h12z : (b' : Int) - (a' : Int) ≤ 12 := by omega
        have hc := Lib.hid (insert64 n blk off cap a' b' d0 dk w0 wr R hs0 hds S1.out hsz hab' hb')
        have HP := Lib.hid (pdq_small (lt := ltInt) (d := dk) (limit := lim) (wb := wb) (wp := wp) h12)
        go_wp2_with (go_at_call 124; refine hc.out.mono ?_; rintro e w1 ⟨rfl, hw1⟩)
        (try simp only [Exit.inBlock, Exit.then])
        refine bodyPost_ret (results_none rfl _ _ _) rfl ?_
        exact ⟨rfl, by rw [← HE.out, HP.out]; exact hw1⟩
      have h12z : ¬ ((b' : Int) - (a' : Int) ≤ 12) := by omega
      by_cases hl0 : lim = 0
      · subst hl0
        have hc := Lib.hid (heap64 n blk off cap a' b' d0 dk w0 wr R hs0 hds S1.out hsz hab' hb')
        have HP := Lib.hid (pdq_heap (lt := ltInt) (d := dk) (limit := 0) (wb := wb) (wp := wp) h12 rfl)
        go_wp2_with (go_at_call 125; refine hc.out.mono ?_; rintro e w1 ⟨rfl, hw1⟩)
        (try simp only [Exit.inBlock, Exit.then])
        refine bodyPost_ret (results_none rfl _ _ _) rfl ?_
        exact ⟨rfl, by rw [← HE.out, HP.out]; exact hw1⟩
      have hl0z : ¬ ((lim : Int) = 0) := by omega
      have hl0b : ((lim : Int) == 0) = false := by rw [beq_eq_false_iff_ne]; exact hl0z
      obtain ⟨s1, B1, hc1, s2, B2, hpv, s3, B3⟩ := rd_facts (limit := lim) (wb := wb) (wp := wp) swo64 partialInsertionSort_holds reverseRange_holds (show a' < b' by omega) (show b' ≤ dk.size by omega) HBel.out
      have HB3 := Lib.hid B3
      clear B1 B2 B3
      have rlim : IntKind.i64.wrap ((lim : Int) - 1) = (lim : Int) - 1 := by rw [IntKind.wrap_i64]; omega
      go_upto_if 35 with fail
      go_cut [3] from 19 (fun s3 wc => s3 = .int .i64 (rd ltInt dk a' b' lim wb wp).lim ∧ Hid (SW encU w0 blk off (rd ltInt dk a' b' lim wb wp).d1 wc))
      case first =>
        cases wb
        · have hc := Lib.hid (break64 n blk off cap a' b' d0 dk w0 wr R hs0 hds S1.out hsz hab' hb')
          go_wp2_with (go_at_call 126; refine hc.out.mono ?_; rintro e w1 ⟨rfl, hw1⟩)
          go_meet
          case rel =>
            refine ⟨?_, hw1⟩
            show Value.int .i64 ((lim : Int) - 1) = Value.int .i64 ((lim - 1 : Nat) : Int)
            congr 1
            omega
        · go_wp2_with fail
          go_meet
          case rel => exact ⟨rfl, S1⟩
      case rest =>
        clear S1
        obtain ⟨rfl, S2⟩ := hcut
        have hcp : Hid (Calls Tryz.prog 127 #[.slice (some ⟨blk, off, none⟩) n cap, .int .i64 a', .int .i64 b'] wc fun e w' => e = .returned (.tuple #[.int .i64 (rd ltInt dk a' b' lim wb wp).c.1, .int .i64 (hintCode (rd ltInt dk a' b' lim wb wp).c.2)]) ∧ SW encU w0 blk off (rd ltInt dk a' b' lim wb wp).d1 w') := Lib.hid (pivot64 n blk off cap a' b' d0 (rd ltInt dk a' b' lim wb wp).d1 w0 wc R hs0 (s1.trans hds) S2.out hsz (by omega) hb')
        go_upto_if 50 with (go_at_call 127; refine hcp.out.mono ?_; rintro e w2 ⟨rfl, hw2⟩)
        have S3 := Lib.hid hw2
        clear hw2 hcp S2
        have rp1 : IntKind.i64.wrap ((b' : Int) - 1) = (b' : Int) - 1 := by rw [IntKind.wrap_i64]; omega
        have rp2 : IntKind.i64.wrap (((rd ltInt dk a' b' lim wb wp).c.1 : Int) - (a' : Int)) = ((rd ltInt dk a' b' lim wb wp).c.1 : Int) - (a' : Int) := by rw [IntKind.wrap_i64]; omega
        have rp3 : IntKind.i64.wrap ((b' : Int) - 1 - (((rd ltInt dk a' b' lim wb wp).c.1 : Int) - (a' : Int))) = (b' : Int) - 1 - (((rd ltInt dk a' b' lim wb wp).c.1 : Int) - (a' : Int)) := by rw [IntKind.wrap_i64]; omega
        go_cut [11, 12] from 19 (fun s11 s12 wc => s11 = .int .i64 (rd ltInt dk a' b' lim wb wp).pivot ∧ s12 = .int .i64 (hintCode (rd ltInt dk a' b' lim wb wp).hint) ∧ Hid (SW encU w0 blk off (rd ltInt dk a' b' lim wb wp).d2 wc))
        case first =>
          by_cases hh : (rd ltInt dk a' b' lim wb wp).c.2 = .decreasing
          · have hcode : hintCode (rd ltInt dk a' b' lim wb wp).c.2 = 2 := by rw [hh]; rfl
            have hcb : (hintCode (rd ltInt dk a' b' lim wb wp).c.2 == 2) = true := by rw [hcode]; rfl
            obtain ⟨e2, epv, eht⟩ := rd_dec hh
            have hc := Lib.hid (reverse64 n blk off cap a' b' d0 (rd ltInt dk a' b' lim wb wp).d1 w0 w2 R hs0 (s1.trans hds) S3.out hsz (by omega) hb')
            have E2 := Lib.hid e2
            have EPV := Lib.hid epv
            have EHT := Lib.hid eht
            clear e2 epv eht hh
            go_wp2_with (go_at_call 128; refine hc.out.mono ?_; rintro e w3 ⟨rfl, hw3⟩)
            go_meet
            case rel =>
              refine ⟨?_, by rw [EHT.out]; rfl, Lib.hid (by rw [E2.out]; exact hw3)⟩
              rw [EPV.out]
              congr 1
              omega
          · have hcode : ¬ (hintCode (rd ltInt dk a' b' lim wb wp).c.2 = 2) := fun h => hh (hintCode_two h)
            have hcb : (hintCode (rd ltInt dk a' b' lim wb wp).c.2 == 2) = false := by rw [beq_eq_false_iff_ne]; exact hcode
            obtain ⟨e2, epv, eht⟩ := rd_not hh
            have E2 := Lib.hid e2
            have EPV := Lib.hid epv
            have EHT := Lib.hid eht
            clear e2 epv eht hh
            go_wp2_with fail
            go_meet
            case rel => exact ⟨by rw [EPV.out], by rw [EHT.out], Lib.hid (by rw [E2.out]; exact S3.out)⟩
        case rest =>
          clear S3
          obtain ⟨rfl, rfl, S4⟩ := hcut
          go_upto_region 15 with fail
          go_cut [12, 68] from 19 (fun s12 s68 wx => s12 = .int .i64 (hintCode (rd ltInt dk a' b' lim wb wp).hint) ∧ s68 = .bool (wb && wp && decide ((rd ltInt dk a' b' lim wb wp).hint = .increasing)) ∧ wx = wc)
          case first =>
            cases wb <;> cases wp <;> cases hh3 : (rd ltInt dk a' b' lim _ _).hint <;>
              (have hcode3 := congrArg hintCode hh3
               simp only [hintCode] at hcode3
               go_wp2_with fail
               go_meet
               exact ⟨by simp [hh3, hintCode], by simp [hh3, hintCode], rfl⟩)
          case rest =>
            obtain ⟨rfl, rfl, hww⟩ := hcut
            subst hww
            go_upto_if 68 with fail
            go_cut [] from 19 (fun wx => (rd ltInt dk a' b' lim wb wp).pi.2 = false ∧ Hid (SW encU w0 blk off (rd ltInt dk a' b' lim wb wp).pi.1 wx))
            case first =>
              cases h68 : (wb && wp && decide ((rd ltInt dk a' b' lim wb wp).hint = .increasing))
              · have EPI := Lib.hid (rd_pi_no h68)
                go_wp2_with fail
                go_meet
                case rel => exact ⟨by rw [EPI.out], Lib.hid (by rw [EPI.out]; exact S4.out)⟩
              · have epi := rd_pi_yes h68
                have hc19 := partial64 n blk off cap a' b' d0 (rd ltInt dk a' b' lim wb wp).d2 w0 wc R hs0 (s2.trans hds) S4.out hsz (by omega) hb'
                rw [← epi] at hc19
                have HC := Lib.hid hc19
                have HDONE := Lib.hid (fun h => pdq_done (lt := ltInt) (d := dk) (a := a') (b := b') (limit := lim) (wb := wb) (wp := wp) h12 hl0 h)
                clear epi hc19
                cases hp2 : (rd ltInt dk a' b' lim wb wp).pi.2 with
                | true =>
                  have HP2 := Lib.hid hp2
                  go_wp2_with (go_at_call 129; refine HC.out.mono ?_; rintro e w4 ⟨rfl, hw4⟩; (try rw [HP2.out]))
                  (try simp only [Exit.inBlock, Exit.then])
                  refine bodyPost_ret (results_none rfl _ _ _) rfl ?_
                  exact ⟨rfl, by rw [← HE.out, HDONE.out HP2.out]; exact hw4⟩
                | false =>
                  have HP2 := Lib.hid hp2
                  go_wp2_with (go_at_call 129; refine HC.out.mono ?_; rintro e w4 ⟨rfl, hw4⟩; (try rw [HP2.out]))
                  go_meet
                  case rel => exact ⟨HP2.out, Lib.hid hw4⟩
            case rest =>
              clear S4
              obtain ⟨hp2, S5⟩ := hcut
              have HP2 := Lib.hid hp2
              clear hp2
              have s3n : (rd ltInt dk a' b' lim wb wp).pi.1.size = n := s3.trans hds
              go_upto_region 17 with fail
              go_cut [87] from 19 (fun s87 wx => s87 = .bool (decide (a' > 0) && !ltInt (rd ltInt dk a' b' lim wb wp).pi.1[a' - 1]! (rd ltInt dk a' b' lim wb wp).pi.1[(rd ltInt dk a' b' lim wb wp).pivot]!) ∧ Hid (SW encU w0 blk off (rd ltInt dk a' b' lim wb wp).pi.1 wx))
              case first =>
                rcases Nat.eq_zero_or_pos a' with ha0 | ha0
                · have ha0z : decide ((a' : Int) > 0) = false := decide_eq_false (by omega)
                  go_quiet (fail)
                  go_wp2_with fail
                  go_meet
                  case rel => exact ⟨by simp [ha0], Lib.hid (S5.out.drewN nq)⟩
                · have ha0z : decide ((a' : Int) > 0) = true := decide_eq_true (by omega)
                  have ha0y : (0 : Int) < (a' : Int) := by omega
                  cases hlv : ltInt (rd ltInt dk a' b' lim wb wp).pi.1[a' - 1]! (rd ltInt dk a' b' lim wb wp).pi.1[(rd ltInt dk a' b' lim wb wp).pivot]! with
                  | true =>
                    obtain ⟨iN, hiN⟩ : ∃ zz, zz = a' - 1 := ⟨_, rfl⟩
                    obtain ⟨jN, hjN⟩ : ∃ zz, zz = (rd ltInt dk a' b' lim wb wp).pivot := ⟨_, rfl⟩
                    have ei : ((a' : Int) - 1 : Int).toNat = iN := by omega
                    have pi : (0 : Int) ≤ ((a' : Int) - 1 : Int) := by omega
                    have bi : ((a' : Int) - 1 : Int) < (n : Int) := by omega
                    have ri : IntKind.i64.wrap ((a' : Int) - 1 : Int) = ((a' : Int) - 1 : Int) := by rw [IntKind.wrap_i64]; omega
                    have ej : (((rd ltInt dk a' b' lim wb wp).pivot : Int) : Int).toNat = jN := by omega
                    have pj : (0 : Int) ≤ (((rd ltInt dk a' b' lim wb wp).pivot : Int) : Int) := by omega
                    have bj : (((rd ltInt dk a' b' lim wb wp).pivot : Int) : Int) < (n : Int) := by omega
                    have rj : IntKind.i64.wrap (((rd ltInt dk a' b' lim wb wp).pivot : Int) : Int) = (((rd ltInt dk a' b' lim wb wp).pivot : Int) : Int) := by rw [IntKind.wrap_i64]; omega
                    obtain ⟨x, hx⟩ : ∃ zz, zz = (rd ltInt dk a' b' lim wb wp).pi.1[a' - 1]! := ⟨_, rfl⟩
                    obtain ⟨y, hy⟩ : ∃ zz, zz = (rd ltInt dk a' b' lim wb wp).pi.1[(rd ltInt dk a' b' lim wb wp).pivot]! := ⟨_, rfl⟩
                    have la := swc S5.out R (by omega) (a' - 1) (by omega)
                    have lb := swc S5.out R (by omega) ((rd ltInt dk a' b' lim wb wp).pivot) (by omega)
                    rw [← hx, ← hiN] at la
                    rw [← hy, ← hjN] at lb
                    have hd : decide (x < y) = true := by rw [hx, hy]; exact hlv
                    have hd2 : x < y := of_decide_eq_true hd
                    clear hx hy hiN hjN
                    go_wp2_with fail
                    go_quiet (first | (go_at_call 130; refine Calls.quiet_of_same (less64 _ _ _)))
                    have S6 : Hid (SW encU w0 blk off (rd ltInt dk a' b' lim wb wp).pi.1 (wc.drewN nq)) := Lib.hid (S5.out.drewN nq)
                    clear la lb S5
                    generalize wc.drewN nq = w6 at S6 ⊢
                    clear nq
                    clear ei pi bi ri ej pj bj rj
                    have HLV := Lib.hid hlv
                    clear hlv
                    go_wp2_with fail
                    go_meet
                    case rel => exact ⟨by rw [HLV.out]; simp [ha0], S6⟩
                  | false =>
                    obtain ⟨iN, hiN⟩ : ∃ zz, zz = a' - 1 := ⟨_, rfl⟩
                    obtain ⟨jN, hjN⟩ : ∃ zz, zz = (rd ltInt dk a' b' lim wb wp).pivot := ⟨_, rfl⟩
                    have ei : ((a' : Int) - 1 : Int).toNat = iN := by omega
                    have pi : (0 : Int) ≤ ((a' : Int) - 1 : Int) := by omega
                    have bi : ((a' : Int) - 1 : Int) < (n : Int) := by omega
                    have ri : IntKind.i64.wrap ((a' : Int) - 1 : Int) = ((a' : Int) - 1 : Int) := by rw [IntKind.wrap_i64]; omega
                    have ej : (((rd ltInt dk a' b' lim wb wp).pivot : Int) : Int).toNat = jN := by omega
                    have pj : (0 : Int) ≤ (((rd ltInt dk a' b' lim wb wp).pivot : Int) : Int) := by omega
                    have bj : (((rd ltInt dk a' b' lim wb wp).pivot : Int) : Int) < (n : Int) := by omega
                    have rj : IntKind.i64.wrap (((rd ltInt dk a' b' lim wb wp).pivot : Int) : Int) = (((rd ltInt dk a' b' lim wb wp).pivot : Int) : Int) := by rw [IntKind.wrap_i64]; omega
                    obtain ⟨x, hx⟩ : ∃ zz, zz = (rd ltInt dk a' b' lim wb wp).pi.1[a' - 1]! := ⟨_, rfl⟩
                    obtain ⟨y, hy⟩ : ∃ zz, zz = (rd ltInt dk a' b' lim wb wp).pi.1[(rd ltInt dk a' b' lim wb wp).pivot]! := ⟨_, rfl⟩
                    have la := swc S5.out R (by omega) (a' - 1) (by omega)
                    have lb := swc S5.out R (by omega) ((rd ltInt dk a' b' lim wb wp).pivot) (by omega)
                    rw [← hx, ← hiN] at la
                    rw [← hy, ← hjN] at lb
                    have hd : decide (x < y) = false := by rw [hx, hy]; exact hlv
                    have hd2 : ¬ x < y := of_decide_eq_false hd
                    clear hx hy hiN hjN
                    go_wp2_with fail
                    go_quiet (first | (go_at_call 130; refine Calls.quiet_of_same (less64 _ _ _)))
                    have S6 : Hid (SW encU w0 blk off (rd ltInt dk a' b' lim wb wp).pi.1 (wc.drewN nq)) := Lib.hid (S5.out.drewN nq)
                    clear la lb S5
                    generalize wc.drewN nq = w6 at S6 ⊢
                    clear nq
                    clear ei pi bi ri ej pj bj rj
                    have HLV := Lib.hid hlv
                    clear hlv
                    go_wp2_with fail
                    go_meet
                    case rel => exact ⟨by rw [HLV.out]; simp [ha0], S6⟩
              case rest =>
                clear S5
                obtain ⟨rfl, S6⟩ := hcut
                cases h87 : (decide (a' > 0) && !ltInt (rd ltInt dk a' b' lim wb wp).pi.1[a' - 1]! (rd ltInt dk a' b' lim wb wp).pi.1[(rd ltInt dk a' b' lim wb wp).pivot]!)
                · obtain ⟨mid, ap, d4, hx⟩ : ∃ mid ap d4, Sort.partition ltInt (rd ltInt dk a' b' lim wb wp).pi.1 a' b' (rd ltInt dk a' b' lim wb wp).pivot = (mid, ap, d4) := ⟨(Sort.partition ltInt (rd ltInt dk a' b' lim wb wp).pi.1 a' b' (rd ltInt dk a' b' lim wb wp).pivot).1, (Sort.partition ltInt (rd ltInt dk a' b' lim wb wp).pi.1 a' b' (rd ltInt dk a' b' lim wb wp).pivot).2.1, (Sort.partition ltInt (rd ltInt dk a' b' lim wb wp).pi.1 a' b' (rd ltInt dk a' b' lim wb wp).pivot).2.2, rfl⟩
                  obtain ⟨r1, r2, r3, r4, r5, r6, r7⟩ := round_part swo64 (partition_holds ltInt) hpv.1 hpv.2 (show b' ≤ (rd ltInt dk a' b' lim wb wp).pi.1.size by omega) HB3.out hx
                  have hc22 := part64 n blk off cap a' b' (rd ltInt dk a' b' lim wb wp).pivot d0 (rd ltInt dk a' b' lim wb wp).pi.1 w0 wc R hs0 s3n S6.out hsz hpv.1 hpv.2 hb'
                  rw [hx] at hc22
                  have HC := Lib.hid hc22
                  have X := Lib.hid hx
                  have H87 := Lib.hid h87
                  have hs4 : d4.size = n := r3.trans s3n
                  clear hx hc22 h87
                  have rq1 : IntKind.i64.wrap ((mid : Int) - (a' : Int)) = (mid : Int) - (a' : Int) := by rw [IntKind.wrap_i64]; omega
                  have rq2 : IntKind.i64.wrap ((b' : Int) - (mid : Int)) = (b' : Int) - (mid : Int) := by rw [IntKind.wrap_i64]; omega
                  have rq3 : IntKind.i64.wrap ((mid : Int) + 1) = (mid : Int) + 1 := by rw [IntKind.wrap_i64]; omega
                  go_upto_if 113 with (go_at_call 132; refine HC.out.mono ?_; rintro e w7 ⟨rfl, hw7⟩)
                  have S7 := Lib.hid hw7
                  clear hw7 HC S6
                  have R4 := Lib.hid r4
                  have R5 := Lib.hid r5
                  have R6 := Lib.hid r6
                  have R7 := Lib.hid r7
                  clear r4 r5 r6 r7
                  by_cases h4 : mid - a' < b' - mid
                  · have h4z : (mid : Int) - (a' : Int) < (b' : Int) - (mid : Int) := by omega
                    have hih := Lib.hid (IH.out a' mid (rd ltInt dk a' b' lim wb wp).lim d4 w7 (by omega) hs4 S7.out (by omega) (by omega) (Nat.lt_of_le_of_lt (Nat.le_trans rd_lim_le hlim) hlimit) R4.out)
                    obtain ⟨pL, sL⟩ := pdq_ok64 swo64 d4 a' mid (rd ltInt dk a' b' lim wb wp).lim true true (by omega) (by omega) R4.out
                    have PL := Lib.hid pL
                    have SL := Lib.hid sL
                    have HPQ := Lib.hid (pdq_left (lt := ltInt) h12 hl0 HP2.out H87.out (by rw [X.out]; exact ⟨r1, r2⟩) (by rw [X.out]; exact h4))
                    rw [X.out] at HPQ
                    clear pL sL
                    go_wp2_with (go_at_call 81; refine hih.out.mono ?_; rintro e w8 ⟨rfl, hw8⟩)
                    go_roundw
                    case rel => exact ⟨mid + 1, b', (rd ltInt dk a' b' lim wb wp).lim, decide (mid - a' ≥ (b' - a') / 8), ap, pdq ltInt d4 a' mid (rd ltInt dk a' b' lim wb wp).lim true true, by first | rfl | go_num | simp, rfl, rfl, congrArg Value.bool (eighth (by omega) (by omega)), rfl, by omega, by omega, by omega, Nat.le_trans rd_lim_le hlim, by rw [PL.out.1]; exact hs4, Lib.hid (R6.out _ PL.out SL.out).1, Lib.hid hw8, Lib.hid (by rw [← HE.out, HPQ.out])⟩
                    case measure => first | (simp [intOf]; done) | (simp [intOf]; omega)
                  · have h4z : ¬ ((mid : Int) - (a' : Int) < (b' : Int) - (mid : Int)) := by omega
                    have hih := IH.out (mid + 1) b' (rd ltInt dk a' b' lim wb wp).lim d4 w7 (by omega) hs4 S7.out (by omega) (by omega) (Nat.lt_of_le_of_lt (Nat.le_trans rd_lim_le hlim) hlimit) R5.out
                    rw [show ((mid + 1 : Nat) : Int) = (mid : Int) + 1 by omega] at hih
                    have HIH := Lib.hid hih
                    obtain ⟨pL, sL⟩ := pdq_ok64 swo64 d4 (mid + 1) b' (rd ltInt dk a' b' lim wb wp).lim true true (by omega) (by omega) R5.out
                    have PL := Lib.hid pL
                    have SL := Lib.hid sL
                    have HPQ := Lib.hid (pdq_right (lt := ltInt) h12 hl0 HP2.out H87.out (by rw [X.out]; exact ⟨r1, r2⟩) (by rw [X.out]; exact h4))
                    rw [X.out] at HPQ
                    clear pL sL hih
                    go_wp2_with (go_at_call 81; refine HIH.out.mono ?_; rintro e w8 ⟨rfl, hw8⟩)
                    go_roundw
                    case rel => exact ⟨a', mid, (rd ltInt dk a' b' lim wb wp).lim, decide (b' - mid ≥ (b' - a') / 8), ap, pdq ltInt d4 (mid + 1) b' (rd ltInt dk a' b' lim wb wp).lim true true, rfl, rfl, rfl, congrArg Value.bool (eighth (by omega) (by omega)), rfl, by omega, by omega, by omega, Nat.le_trans rd_lim_le hlim, by rw [PL.out.1]; exact hs4, Lib.hid (R7.out _ PL.out SL.out).1, Lib.hid hw8, Lib.hid (by rw [← HE.out, HPQ.out])⟩
                    case measure => first | (simp [intOf]; done) | (simp [intOf]; omega)
                · have h87' := h87
                  simp only [Bool.and_eq_true, decide_eq_true_eq, Bool.not_eq_true'] at h87'
                  obtain ⟨mid, d4, hx⟩ : ∃ mid d4, Sort.partitionEqual ltInt (rd ltInt dk a' b' lim wb wp).pi.1 a' b' (rd ltInt dk a' b' lim wb wp).pivot = (mid, d4) := ⟨(Sort.partitionEqual ltInt (rd ltInt dk a' b' lim wb wp).pi.1 a' b' (rd ltInt dk a' b' lim wb wp).pivot).1, (Sort.partitionEqual ltInt (rd ltInt dk a' b' lim wb wp).pi.1 a' b' (rd ltInt dk a' b' lim wb wp).pivot).2, rfl⟩
                  obtain ⟨r1, r2, r3, r4, _⟩ := round_eq swo64 (partitionEqual_holds ltInt) h87'.1 hpv.1 hpv.2 (show b' ≤ (rd ltInt dk a' b' lim wb wp).pi.1.size by omega) HB3.out h87'.2 hx
                  have hc21 := partEq64 n blk off cap a' b' (rd ltInt dk a' b' lim wb wp).pivot d0 (rd ltInt dk a' b' lim wb wp).pi.1 w0 wc R hs0 s3n S6.out hsz hpv.1 hpv.2 hb'
                  rw [hx] at hc21
                  have HC := Lib.hid hc21
                  have HPQ := Lib.hid (pdq_eq (lt := ltInt) h12 hl0 HP2.out h87 (by rw [hx]; exact ⟨r1, r2⟩))
                  rw [hx] at HPQ
                  have hs4 : d4.size = n := r3.trans s3n
                  have R4 := Lib.hid r4
                  clear hx hc21 h87 h87' r4
                  go_wp2_with (go_at_call 131; refine HC.out.mono ?_; rintro e w7 ⟨rfl, hw7⟩)
                  go_roundw
                  case rel => exact ⟨mid, b', (rd ltInt dk a' b' lim wb wp).lim, wb, wp, d4, rfl, rfl, rfl, rfl, rfl, r2, hb', by omega, Nat.le_trans rd_lim_le hlim, hs4, R4, Lib.hid hw7, Lib.hid (by rw [← HE.out, HPQ.out])⟩
                  case measure => first | (simp [intOf]; done) | (simp [intOf]; omega)
end Go.Proofs.YtnkdcmibafjplaaGreatDoor
