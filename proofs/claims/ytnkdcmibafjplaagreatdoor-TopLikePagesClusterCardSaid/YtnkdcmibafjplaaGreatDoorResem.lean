/-
  How alike two rising rows are: of both packages.
-/
import Derived.Test.YtnkdcmibafjplaaGreatDoorProg
import Derived.Test.YtnkdcmibafjplaaGreatDoorCommon
import Derived.Test.YtnkdcmibafjplaaGreatDoorRatio
import Derived.Test.YtnkdcmibafjplaaGreatDoorShin
namespace Go.Proofs.YtnkdcmibafjplaaGreatDoor
open Go.RowKit
set_option linter.unusedVariables false
set_option linter.unusedSimpArgs false

def ratQ (a b : Nat) : Nat × Nat := (a / Nat.gcd a b, b / Nat.gcd a b)
def pairV (p : Nat × Nat) : Value := .agg #[.int .i64 (p.1 : Nat), .int .i64 (p.2 : Nat)]
def resQ (a b : List Int) : Nat × Nat := if a.length + b.length = 0 then (1, 1) else ratQ (com a b) (a.length + b.length - com a b)
/-- The elements that are in both: a part of the second row too. -/
theorem com_eq_len {a b : List Int} : com a b = (a.filter (b.contains ·)).length := List.countP_eq_length_filter
theorem com_comm : ∀ (N : Nat) (a b : List Int), a.length + b.length ≤ N → a.Pairwise (· < ·) → b.Pairwise (· < ·) → com a b = com b a
  | _, [], b, _, _, _ => by simp [com]
  | _, x :: a, [], _, _, _ => by simp [com]
  | 0, x :: a, y :: b, h, _, _ => by simp at h
  | N + 1, x :: a, y :: b, h, ha, hb => by
    have ha' := (List.pairwise_cons.1 ha).2
    have hb' := (List.pairwise_cons.1 hb).2
    rw [List.length_cons, List.length_cons] at h
    rcases Int.lt_trichotomy x y with h1 | h1 | h1
    · have e1 := com_lt (a := x :: a) (b := y :: b) (i := 0) (k := 0) hb (by simp) (by simp) h1
      have e2 := com_gt (a := y :: b) (b := x :: a) (i := 0) (k := 0) hb (by simp) (by simp) h1
      simp only [List.drop_zero, Nat.zero_add, List.drop_succ_cons] at e1 e2
      rw [e1, e2]
      exact com_comm N a (y :: b) (by rw [List.length_cons]; omega) ha' hb
    · have e1 := com_same (a := x :: a) (b := y :: b) (i := 0) (k := 0) ha (by simp) (by simp) h1
      have e2 := com_same (a := y :: b) (b := x :: a) (i := 0) (k := 0) hb (by simp) (by simp) h1.symm
      simp only [List.drop_zero, Nat.zero_add, List.drop_succ_cons] at e1 e2
      rw [e1, e2, com_comm N a b (by omega) ha' hb']
    · have e1 := com_gt (a := x :: a) (b := y :: b) (i := 0) (k := 0) ha (by simp) (by simp) h1
      have e2 := com_lt (a := y :: b) (b := x :: a) (i := 0) (k := 0) ha (by simp) (by simp) h1
      simp only [List.drop_zero, Nat.zero_add, List.drop_succ_cons] at e1 e2
      rw [e1, e2]
      exact com_comm N (x :: a) b (by rw [List.length_cons]; omega) ha hb'
theorem com_le_right {a b : List Int} (ha : a.Pairwise (· < ·)) (hb : b.Pairwise (· < ·)) : com a b ≤ b.length := by
  rw [com_comm _ a b (Nat.le_refl _) ha hb]; exact com_le b a
theorem rat_info : (Tryz.prog.info? 24).map (·.size) = some 2 := by kernel_rfl
set_option maxRecDepth 100000 in
set_option maxHeartbeats 2000000 in
theorem resem_any (v1 v2 : Value) (a b : List Int) (w : World) (h1 : (Rp.sl (Rp.int .u64)).ok w (· < w.heap.size) [v1] a) (h2 : (Rp.sl (Rp.int .u64)).ok w (· < w.heap.size) [v2] b) (sa : a.Pairwise (· < ·)) (sb : b.Pairwise (· < ·)) (la : a.length ≤ 1000000) (lb : b.length ≤ 1000000) :
    Calls Tryz.prog 19 #[v1, v2] w fun e w' => e = .returned (pairV (resQ a b)) ∧ Below w.heap.size w w' := by
  obtain ⟨A, c, rfl, hlc1, hc1, _⟩ := Rp.sl_open h1
  obtain ⟨B, d, rfl, hlc2, hc2, _⟩ := Rp.sl_open h2
  unfold maxLen at hc1 hc2
  have hk0 := Blk.new w 24 [.int .i64 0, .int .i64 0]
  have hal := (Below.refl w.heap.size w).alloc (Nat.le_refl _) (.cells #[.int .i64 0, .int .i64 0] 24)
  have HC := Lib.hid (common_any _ _ a b (w.alloc (.cells #[.int .i64 0, .int .i64 0] 24)) _ _ (Rp.below _ h1 hal) (Rp.below _ h2 hal) sa sb la lb)
  have hn1 := com_le a b
  have hn2 := com_le_right sa sb
  have HQ : Hid (resQ a b = if a.length + b.length = 0 then (1, 1) else ratQ (com a b) (a.length + b.length - com a b)) := Lib.hid rfl
  have HK0 := Lib.hid hk0
  have HAL := Lib.hid hal
  clear hk0 hal h1 h2 sa sb
  generalize resQ a b = R at *
  generalize com a b = n at *
  go_enter Tryz.func19, Tryz.ntmps19
  go_wp2_with (at_builtin; fail)
  refine HC.out.mono ?_
  rintro e w1 ⟨rfl, q, rfl⟩
  have hk1 := HK0.out.drewU q
  have HB1 := Lib.hid (below_drewN HAL.out q)
  have HK1 := Lib.hid hk1
  have c0 : _ = some (Value.int .i64 0) := hk1.cell 0
  have c1 : _ = some (Value.int .i64 0) := hk1.cell 1
  have f0 := hk1.frozen 0
  have f1 := hk1.frozen 1
  clear hk1 HC HK0 HAL
  generalize (w.alloc (.cells #[.int .i64 0, .int .i64 0] 24)).drewN q = w1 at *
  by_cases h0 : a.length + b.length = 0
  · have hR : Hid (R = (1, 1)) := Lib.hid (by rw [HQ.out, if_pos h0])
    have hz : ((a.length : Int) + (b.length : Int) == 0) = true := by rw [beq_iff_eq]; omega
    have hz2 : (a.length : Int) + (b.length : Int) - (n : Int) = 0 := by omega
    clear h0 hn1 hn2
    have HF := Lib.hid ((HK1.out.set_ 0 (.int .i64 1)).set_ 1 (.int .i64 1))
    clear HQ
    go_wp2_with (at_builtin; fail)
    refine bodyPost_ret (results_cell_row rfl _ _ w.heap.size 24 #[.int .i64 1, .int .i64 1] (0, 0) _ rfl HF.out Tryz.underlying24 rfl rat_info) rfl ?_
    exact ⟨by rw [hR.out]; rfl, (HB1.out.setCell (Nat.le_refl _) _).setCell (Nat.le_refl _) _⟩
  · have hR : Hid (R = ratQ n (a.length + b.length - n)) := Lib.hid (by rw [HQ.out, if_neg h0])
    have hz : ((a.length : Int) + (b.length : Int) == 0) = false := by rw [beq_eq_false_iff_ne]; omega
    obtain ⟨m, hm⟩ : ∃ m, m = a.length + b.length - n := ⟨_, rfl⟩
    rw [← hm] at hR
    have hmI : (a.length : Int) + (b.length : Int) - (n : Int) = (m : Int) := by omega
    have hm1 : m ≤ 1000000000 := by omega
    have hm0 : 0 < m := by omega
    have hnm : n ≤ 1000000000 := by omega
    have HRT := Lib.hid (ratio_any n m w1 hnm hm1 hm0)
    have hz2 : (0 : Int) < (m : Int) := by omega
    clear HQ c0 c1 f0 f1 hm h0
    go_wp2_with (at_builtin; fail)
    refine HRT.out.mono ?_
    rintro e w2 ⟨rfl, hb2⟩
    have hk2 := HK1.out.same (same_below hb2) HK1.out.lt
    have c0 : _ = some (Value.int .i64 0) := hk2.cell 0
    have c1 : _ = some (Value.int .i64 0) := hk2.cell 1
    have f0 := hk2.frozen 0
    have f1 := hk2.frozen 1
    have HB2 := Lib.hid (below_trans2 HB1.out hb2 HB1.out.size)
    obtain ⟨x, y, hxy⟩ : ∃ x y : Nat, ratQ n m = (x, y) := ⟨_, _, rfl⟩
    have hv : ratV n m = .agg #[.int .i64 x, .int .i64 y] := by
      have h1 : n / Nat.gcd n m = x := congrArg Prod.fst hxy
      have h2 : m / Nat.gcd n m = y := congrArg Prod.snd hxy
      unfold ratV; rw [h1, h2]
    rw [hxy] at hR
    rw [hv]
    have HF := Lib.hid ((hk2.set_ 0 (.int .i64 x)).set_ 1 (.int .i64 y))
    clear hb2 hk2 HK1 HB1 hv hxy HRT
    go_wp2_with (at_builtin; fail)
    refine bodyPost_ret (results_cell_row rfl _ _ w.heap.size 24 #[.int .i64 x, .int .i64 y] (0, 0) _ rfl HF.out Tryz.underlying24 rfl rat_info) rfl ?_
    exact ⟨by rw [hR.out]; rfl, (HB2.out.setCell (Nat.le_refl _) _).setCell (Nat.le_refl _) _⟩
end Go.Proofs.YtnkdcmibafjplaaGreatDoor
