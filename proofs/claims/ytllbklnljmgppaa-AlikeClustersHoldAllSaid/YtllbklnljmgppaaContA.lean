/-
  ephemera/alike.Resemblance walked.
-/
import Derived.Test.YtllbklnljmgppaaContP
namespace Go.Proofs.Ytllbklnljmgppaa
open Go.RowKit
set_option linter.unusedVariables false
set_option linter.unusedSimpArgs false

set_option maxRecDepth 100000 in
set_option maxHeartbeats 4000000 in
theorem resA_any (a b : List UInt8) (n : Int) (w : World) (za : a.length ≤ maxLen) (zb : b.length ≤ maxLen) : Calls Try.prog 18 #[.string (bstr a), .string (bstr b), .int .i64 n] w (RPost (qRes a b n) (askF a b n) w) := by
  have HK0 : Hid (Blk (w.alloc (.cells #[.int .i64 0, .int .i64 0] 37)) w.heap.size 37 [.int .i64 0, .int .i64 0]) := Lib.hid (Blk.new w _ _)
  have HAL : Hid (Below w.heap.size w (w.alloc (.cells #[.int .i64 0, .int .i64 0] 37))) := Lib.hid ((Below.refl _ _).alloc (Nat.le_refl _) _)
  have hT := twoText_ok a b (w.alloc (.cells #[.int .i64 0, .int .i64 0] 37)) za zb
  rw [World.size_alloc] at hT
  have HT := Lib.hid hT
  clear hT
  have HTF := Lib.hid (textsFault_two a b)
  have HB1 : Hid (Below w.heap.size w ((w.alloc (.cells #[.int .i64 0, .int .i64 0] 37)).alloc (.cells #[.string (bstr a), .string (bstr b)] 9))) := Lib.hid (below_trans2 HAL.out ((Below.refl _ _).alloc (Nat.le_refl _) _) HAL.out.size)
  have HK1 : Hid (Blk ((w.alloc (.cells #[.int .i64 0, .int .i64 0] 37)).alloc (.cells #[.string (bstr a), .string (bstr b)] 9)) w.heap.size 37 [.int .i64 0, .int .i64 0]) := Lib.hid (HK0.out.same (same_below ((Below.refl _ _).alloc (Nat.le_refl _) _)) HK0.out.lt)
  have c0 : _ = some (Value.int .i64 0) := HK1.out.cell 0
  have c1 : _ = some (Value.int .i64 0) := HK1.out.cell 1
  have f0 := HK1.out.frozen 0
  have f1 := HK1.out.frozen 1

  rcases askF_cases a b n with ⟨hA, htx, hsh⟩ | ⟨hA, htx, hsh⟩ | ⟨hA, htx⟩
  · have HA := Lib.hid hA
    have HQ : Hid (qRes a b n = resQ (shL a n.toNat) (shL b n.toNat)) := Lib.hid (by unfold qRes; rw [if_pos hA])
    have hn2 : 1 ≤ n ∧ n ≤ 10 := of_decide_eq_true hsh
    have htl : a.length ≤ 20000 ∧ b.length ≤ 20000 := of_decide_eq_true htx
    obtain ⟨m, rfl⟩ := Int.eq_ofNat_of_zero_le (show 0 ≤ n by omega)
    rw [Int.toNat_natCast] at HQ
    have HS1 := Lib.hid (shingles_any a m ((w.alloc (.cells #[.int .i64 0, .int .i64 0] 37)).alloc (.cells #[.string (bstr a), .string (bstr b)] 9)) htl.1 (by omega) (by omega))
    have HS2 := Lib.hid (fun w => shingles_any b m w htl.2 (by omega) (by omega))
    have lA := shL_len htl.1 m (by omega)
    have lB := shL_len htl.2 m (by omega)
    have SA := Lib.hid (shL_sorted a m)
    have SB := Lib.hid (shL_sorted b m)
    clear c0 c1 f0 f1 hA
    go_enter Try.func18, Try.ntmps18
    go_wp2_with (at_builtin; fail)
    refine (checkTexts_any _ _ _ _ HT.out).mono ?_
    rintro e w1 ⟨rfl, rfl⟩
    rw [HTF.out, if_pos htx]
    go_wp2_with (at_builtin; fail)
    refine (isShingle_any (m : Int) _).mono ?_
    rintro e w1 ⟨rfl, rfl⟩
    rw [hsh]
    go_wp2_with (at_builtin; fail)
    refine HS1.out.mono ?_
    rintro e w2 ⟨v2, rfl, hO2, hb2⟩
    have HO2 := Lib.hid hO2
    have HB2 := Lib.hid (below_trans2 HB1.out hb2 HB1.out.size)
    have HK2 := Lib.hid (HK1.out.same (same_below hb2) HK1.out.lt)
    clear hO2 hb2 HS1 HK1 HB1 HK0 HAL
    go_wp2_with (at_builtin; fail)
    refine (HS2.out _).mono ?_
    rintro e w3 ⟨v3, rfl, hO3, hb3⟩
    have HR2 := Lib.hid (shL_read (own_belowU HO2.out hb3))
    have HR3 := Lib.hid (shL_read hO3)
    have HB3 := Lib.hid (below_trans2 HB2.out hb3 HB2.out.size)
    have HK3 := Lib.hid (HK2.out.same (same_below hb3) HK2.out.lt)
    clear hO3 hb3 HS2 HK2 HB2 HO2
    go_wp2_with (at_builtin; fail)
    refine (resem_any _ _ _ _ w3 HR2.out HR3.out SA.out SB.out (by omega) (by omega)).mono ?_
    rintro e w4 ⟨rfl, hb4⟩
    have HB4 := Lib.hid (below_trans2 HB3.out hb4 HB3.out.size)
    have HK4 := Lib.hid (HK3.out.same (same_below hb4) HK3.out.lt)
    clear hb4 HB3 HK3 HR2 HR3 SA SB
    rw [← HQ.out]
    obtain ⟨x, y, hxy⟩ : ∃ x y : Nat, qRes a b (m : Int) = (x, y) := ⟨_, _, rfl⟩
    have HQ := Lib.hid hxy
    rw [hxy]
    clear hxy
    rw [show pairV (x, y) = .agg #[.int .i64 (x : Nat), .int .i64 (y : Nat)] from rfl]
    have c0 : _ = some (Value.int .i64 0) := HK4.out.cell 0
    have c1 : _ = some (Value.int .i64 0) := HK4.out.cell 1
    have f0 := HK4.out.frozen 0
    have f1 := HK4.out.frozen 1
    have HF := Lib.hid ((HK4.out.set_ 0 (.int .i64 x)).set_ 1 (.int .i64 y))
    go_wp2_with (at_builtin; fail)
    refine bodyPost_ret (results_row2 rfl _ _ w.heap.size 37 [.int .i64 x, .int .i64 y] _ rfl HF.out Try.underlying37 rfl rat_info) rfl ?_
    exact (show RPost (qRes a b (m : Int)) (askF a b (m : Int)) w (.returned (.tuple #[.agg #[.int .i64 x, .int .i64 y], .int .i64 0])) _ from ⟨by rw [HQ.out, HA.out]; rfl, (HB4.out.setCell (p := ⟨w.heap.size, 0, none⟩) (Nat.le_refl _) _).setCell (p := ⟨w.heap.size, 1, none⟩) (Nat.le_refl _) _⟩)

  · have HA := Lib.hid hA
    have HQ : Hid (qRes a b n = (0, 0)) := Lib.hid (by unfold qRes; rw [if_neg (by rw [hA]; decide)])
    clear hA
    go_enter Try.func18, Try.ntmps18
    go_wp2_with (at_builtin; fail)
    refine (checkTexts_any _ _ _ _ HT.out).mono ?_
    rintro e w1 ⟨rfl, rfl⟩
    rw [HTF.out, if_pos htx]
    go_wp2_with (at_builtin; fail)
    refine (isShingle_any n _).mono ?_
    rintro e w1 ⟨rfl, rfl⟩
    rw [hsh]
    go_wp2_with (at_builtin; fail)
    refine bodyPost_ret (results_row2 rfl _ _ w.heap.size 37 [.int .i64 0, .int .i64 0] _ rfl HK1.out Try.underlying37 rfl rat_info) rfl ?_
    exact (show RPost (qRes a b n) (askF a b n) w (.returned (.tuple #[.agg #[.int .i64 0, .int .i64 0], .int .i64 1])) _ from ⟨by rw [HQ.out, HA.out]; rfl, HB1.out⟩)

  · have HA := Lib.hid hA
    have HQ : Hid (qRes a b n = (0, 0)) := Lib.hid (by unfold qRes; rw [if_neg (by rw [hA]; decide)])
    clear hA
    go_enter Try.func18, Try.ntmps18
    go_wp2_with (at_builtin; fail)
    refine (checkTexts_any _ _ _ _ HT.out).mono ?_
    rintro e w1 ⟨rfl, rfl⟩
    rw [HTF.out, if_neg (by rw [htx]; decide)]
    go_wp2_with (at_builtin; fail)
    refine bodyPost_ret (results_row2 rfl _ _ w.heap.size 37 [.int .i64 0, .int .i64 0] _ rfl HK1.out Try.underlying37 rfl rat_info) rfl ?_
    exact (show RPost (qRes a b n) (askF a b n) w (.returned (.tuple #[.agg #[.int .i64 0, .int .i64 0], .int .i64 2])) _ from ⟨by rw [HQ.out, HA.out]; rfl, HB1.out⟩)

end Go.Proofs.Ytllbklnljmgppaa
