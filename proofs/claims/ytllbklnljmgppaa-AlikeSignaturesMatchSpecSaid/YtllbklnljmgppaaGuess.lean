/-
  Guess of both packages walked.
-/
import Derived.Test.YtllbklnljmgppaaMix
import Derived.Test.YtllbklnljmgppaaContP
import Derived.Deep.QuietTactic
import Derived.BigQuiet
namespace Go.Proofs.Ytllbklnljmgppaa
open Go.RowKit
set_option linter.unusedVariables false
set_option linter.unusedSimpArgs false

def eqN (a b : List Int) (k : Nat) : Nat := ((a.zip b).take k).countP fun p => p.1 == p.2
theorem eqN_le (a b : List Int) (k : Nat) : eqN a b k ≤ k := Nat.le_trans List.countP_le_length (by rw [List.length_take]; omega)
theorem eqN_succ {a b : List Int} {k : Nat} (ha : k < a.length) (hb : k < b.length) : eqN a b (k + 1) = eqN a b k + if a[k] = b[k] then 1 else 0 := by
  unfold eqN
  rw [List.take_succ_eq_append_getElem (by rw [List.length_zip]; omega), List.countP_append, List.countP_cons, List.countP_nil, Nat.zero_add, List.getElem_zip]
  simp
def guF (a b : List Int) : Int := if a.length = 0 then 9 else if 128 < a.length then 2 else if b.length = a.length then 0 else 3
def guQ (a b : List Int) : Nat × Nat := if guF a b = 0 then ratQ (eqN a b a.length) a.length else (0, 0)
theorem gu_bad {a b : List Int} {f : Int} (h : guF a b = f) (hf : f ≠ 0) : guF a b = f ∧ guQ a b = (0, 0) := ⟨h, if_neg (by rw [h]; exact hf)⟩
theorem gu_good {a b : List Int} (h : guF a b = 0) : guF a b = 0 ∧ guQ a b = ratQ (eqN a b a.length) a.length := ⟨h, if_pos h⟩
set_option maxRecDepth 100000 in
set_option maxHeartbeats 4000000 in
theorem guess_any (v1 v2 : Value) (a b : List Int) (w : World) (h1 : (Rp.sl (Rp.int .u64)).ok w (· < w.heap.size) [v1] a) (h2 : (Rp.sl (Rp.int .u64)).ok w (· < w.heap.size) [v2] b) : Calls Try.prog 23 #[v1, v2] w (RPost (guQ a b) (guF a b) w) := by
  obtain ⟨A, c, rfl, hlc1, hc1, _⟩ := Rp.sl_open h1
  obtain ⟨B, d, rfl, hlc2, hc2, _⟩ := Rp.sl_open h2
  unfold maxLen at hc1 hc2
  have HK0 : Hid (Blk (w.alloc (.cells #[.int .i64 0, .int .i64 0] 37)) w.heap.size 37 [.int .i64 0, .int .i64 0]) := Lib.hid (Blk.new w _ _)
  have hal := (Below.refl w.heap.size w).alloc (Nat.le_refl _) (.cells #[.int .i64 0, .int .i64 0] 37)
  have H1 := Lib.hid (Rp.below _ h1 hal)
  have H2 := Lib.hid (Rp.below _ h2 hal)
  have HAL := Lib.hid hal
  clear hal h1 h2
  by_cases q1 : a.length = 0
  · have HQ : Hid (guF a b = 9 ∧ guQ a b = (0, 0)) := Lib.hid (gu_bad (f := 9) (if_pos q1) (by decide))
    have hz : ((a.length : Int) == 0) = true := by rw [q1]; rfl
    have c0 : _ = some (Value.int .i64 0) := HK0.out.cell 0
    have c1 : _ = some (Value.int .i64 0) := HK0.out.cell 1
    have f0 := HK0.out.frozen 0
    have f1 := HK0.out.frozen 1
    go_enter Try.func23, Try.ntmps23
    go_wp2_with (at_builtin; fail)
    refine bodyPost_ret (results_row2 rfl _ _ w.heap.size 37 [.int .i64 0, .int .i64 0] _ rfl HK0.out Try.underlying37 rfl rat_info) rfl ?_
    exact (show RPost (guQ a b) (guF a b) w (.returned (.tuple #[.agg #[.int .i64 0, .int .i64 0], .int .i64 9])) _ from ⟨by rw [HQ.out.1, HQ.out.2]; rfl, HAL.out⟩)
  have hz : ((a.length : Int) == 0) = false := by rw [beq_eq_false_iff_ne]; omega
  by_cases q2 : 128 < a.length
  · have HQ : Hid (guF a b = 2 ∧ guQ a b = (0, 0)) := Lib.hid (gu_bad (f := 2) (by unfold guF; rw [if_neg q1, if_pos q2]) (by decide))
    have d1 : (128 : Int) < (a.length : Int) := by omega
    have c0 : _ = some (Value.int .i64 0) := HK0.out.cell 0
    have c1 : _ = some (Value.int .i64 0) := HK0.out.cell 1
    have f0 := HK0.out.frozen 0
    have f1 := HK0.out.frozen 1
    go_enter Try.func23, Try.ntmps23
    go_wp2_with (at_builtin; fail)
    refine bodyPost_ret (results_row2 rfl _ _ w.heap.size 37 [.int .i64 0, .int .i64 0] _ rfl HK0.out Try.underlying37 rfl rat_info) rfl ?_
    exact (show RPost (guQ a b) (guF a b) w (.returned (.tuple #[.agg #[.int .i64 0, .int .i64 0], .int .i64 2])) _ from ⟨by rw [HQ.out.1, HQ.out.2]; rfl, HAL.out⟩)
  have d1 : ¬ (128 : Int) < (a.length : Int) := by omega
  by_cases q3 : b.length = a.length
  case neg =>
    have HQ : Hid (guF a b = 3 ∧ guQ a b = (0, 0)) := Lib.hid (gu_bad (f := 3) (by unfold guF; rw [if_neg q1, if_neg q2, if_neg q3]) (by decide))
    have d2 : ((b.length : Int) != (a.length : Int)) = true := by rw [bne_iff_ne]; omega
    have d3 : ((a.length : Int) != (b.length : Int)) = true := by rw [bne_iff_ne]; omega
    have c0 : _ = some (Value.int .i64 0) := HK0.out.cell 0
    have c1 : _ = some (Value.int .i64 0) := HK0.out.cell 1
    have f0 := HK0.out.frozen 0
    have f1 := HK0.out.frozen 1
    go_enter Try.func23, Try.ntmps23
    go_wp2_with (at_builtin; fail)
    refine bodyPost_ret (results_row2 rfl _ _ w.heap.size 37 [.int .i64 0, .int .i64 0] _ rfl HK0.out Try.underlying37 rfl rat_info) rfl ?_
    exact (show RPost (guQ a b) (guF a b) w (.returned (.tuple #[.agg #[.int .i64 0, .int .i64 0], .int .i64 3])) _ from ⟨by rw [HQ.out.1, HQ.out.2]; rfl, HAL.out⟩)
  case pos =>
    have HQ : Hid (guF a b = 0 ∧ guQ a b = ratQ (eqN a b a.length) a.length) := Lib.hid (gu_good (by unfold guF; rw [if_neg q1, if_neg q2, if_pos q3]))
    have d2 : ((b.length : Int) != (a.length : Int)) = false := by rw [q3]; simp
    have d3 : ((a.length : Int) != (b.length : Int)) = false := by rw [q3]; simp
    have hla : a.length ≤ 128 := by omega
    have hla0 : 0 < a.length := by omega
    have Q3 := Lib.hid q3
    clear q3 q1 q2
    go_enter Try.func23, Try.ntmps23
    go_wp2_with (at_builtin; fail)
    go_loopw [6, 27] (fun vn vi wr => ∃ k : Nat, k ≤ a.length ∧ vi = .int .i64 k ∧ vn = .int .i64 (eqN a b k : Nat) ∧ Hid (Drawn (w.alloc (.cells #[.int .i64 0, .int .i64 0] 37)) wr)) (fun _ vi _ => a.length - (intOf vi).toNat)
    case atStart => exact ⟨0, by omega, rfl, by simp [eqN], Drawn.refl _⟩
    case round =>
      obtain ⟨k, hk, rfl, rfl, HD⟩ := hrel
      by_cases hlt : k < a.length
      · obtain ⟨ad1, u1, rfl, _, hu1, hcell1⟩ := Rp.sl_at1 rfl ((Rp.sl (Rp.int .u64)).drawn H1.out HD.out) hlt
        obtain ⟨ad2, u2, rfl, _, hu2, hcell2⟩ := Rp.sl_at1 rfl ((Rp.sl (Rp.int .u64)).drawn H2.out HD.out) (k := k) (by rw [Q3.out]; exact hlt)
        obtain ⟨hu1, _⟩ := hu1
        injection hu1 with hu1
        subst hu1
        obtain ⟨hu2, _⟩ := hu2
        injection hu2 with hu2
        subst hu2
        have HS := Lib.hid (eqN_succ (a := a) (b := b) (k := k) hlt (by rw [Q3.out]; exact hlt))
        have hle := eqN_le a b k
        have hbl : (k : Int) < (b.length : Int) := by rw [Q3.out]; omega
        have hbl2 : k < b.length := by rw [Q3.out]; omega
        obtain ⟨x, hx⟩ : ∃ x, a[k] = x := ⟨_, rfl⟩
        obtain ⟨y, hy⟩ : ∃ y, b[k] = y := ⟨_, rfl⟩
        rw [hx, hy] at HS
        rw [hx] at hcell1
        rw [hy] at hcell2
        clear hx hy
        generalize eqN a b k = n at *
        by_cases he : x = y
        · have HE : Hid (eqN a b (k + 1) = n + 1) := Lib.hid (by rw [HS.out, if_pos he])
          have h1 : (x == y) = true := by rw [he]; simp
          have h1' : (y == x) = true := by rw [he]; simp
          clear he HS
          go_wp2_with (at_builtin; fail)
          go_quiet (fail)
          go_wp2
          go_roundw
          case rel => exact ⟨k + 1, by omega, by go_num, by rw [HE.out]; go_num, HD.out.more _⟩
          case measure => simp [intOf]; omega
        · have HE : Hid (eqN a b (k + 1) = n) := Lib.hid (by rw [HS.out, if_neg he]; rfl)
          have h1 : (x == y) = false := by rw [beq_eq_false_iff_ne]; exact he
          have h1' : (y == x) = false := by rw [beq_eq_false_iff_ne]; exact fun e => he e.symm
          clear he HS
          go_wp2_with (at_builtin; fail)
          go_quiet (fail)
          go_wp2
          go_roundw
          case rel => exact ⟨k + 1, by omega, by go_num, by rw [HE.out], HD.out.more _⟩
          case measure => simp [intOf]; omega
      · obtain rfl : k = a.length := by omega
        have hle := eqN_le a b a.length
        obtain ⟨n, hn⟩ : ∃ n, eqN a b a.length = n := ⟨_, rfl⟩
        rw [hn] at HQ hle
        rw [hn]
        clear hn
        have HB := Lib.hid (HD.out.below HAL.out)
        have HK := Lib.hid (HK0.out.same (HD.out.same (fun _ => True)) trivial)
        have hsz := HD.out.size
        clear HD
        go_wp2_with (at_builtin; fail)
        refine (ratio_any n a.length wr (by omega) (by omega) hla0).mono ?_
        rintro e w5 ⟨rfl, hb5⟩
        have HB5 := Lib.hid (below_trans2 HB.out hb5 HB.out.size)
        have HK5 := Lib.hid (HK.out.same (same_below hb5) HK.out.lt)
        clear hb5 HB HK HAL HK0 hsz
        rw [show ratV n a.length = pairV (ratQ n a.length) from rfl, ← HQ.out.2]
        obtain ⟨x, y, hxy⟩ : ∃ x y : Nat, guQ a b = (x, y) := ⟨_, _, rfl⟩
        have HXY := Lib.hid hxy
        rw [hxy, show pairV (x, y) = .agg #[.int .i64 (x : Nat), .int .i64 (y : Nat)] from rfl]
        clear hxy
        have c0 : _ = some (Value.int .i64 0) := HK5.out.cell 0
        have c1 : _ = some (Value.int .i64 0) := HK5.out.cell 1
        have f0 := HK5.out.frozen 0
        have f1 := HK5.out.frozen 1
        have HF := Lib.hid ((HK5.out.set_ 0 (.int .i64 x)).set_ 1 (.int .i64 y))
        go_wp2_with (at_builtin; fail)
        refine bodyPost_ret (results_row2 rfl _ _ w.heap.size 37 [.int .i64 x, .int .i64 y] _ rfl HF.out Try.underlying37 rfl rat_info) rfl ?_
        exact (show RPost (guQ a b) (guF a b) w (.returned (.tuple #[.agg #[.int .i64 x, .int .i64 y], .int .i64 0])) _ from ⟨by rw [HXY.out, HQ.out.1]; rfl, (HB5.out.setCell (p := ⟨w.heap.size, 0, none⟩) (Nat.le_refl _) _).setCell (p := ⟨w.heap.size, 1, none⟩) (Nat.le_refl _) _⟩)
set_option maxRecDepth 100000 in
set_option maxHeartbeats 4000000 in
theorem refGuess_any (v1 v2 : Value) (a b : List Int) (w : World) (h1 : (Rp.sl (Rp.int .u64)).ok w (· < w.heap.size) [v1] a) (h2 : (Rp.sl (Rp.int .u64)).ok w (· < w.heap.size) [v2] b) : Calls Try.prog 24 #[v1, v2] w (RPost (guQ a b) (guF a b) w) := by
  obtain ⟨A, c, rfl, hlc1, hc1, _⟩ := Rp.sl_open h1
  obtain ⟨B, d, rfl, hlc2, hc2, _⟩ := Rp.sl_open h2
  unfold maxLen at hc1 hc2
  have HK0 : Hid (Blk (w.alloc (.cells #[.int .i64 0, .int .i64 0] 37)) w.heap.size 37 [.int .i64 0, .int .i64 0]) := Lib.hid (Blk.new w _ _)
  have hal := (Below.refl w.heap.size w).alloc (Nat.le_refl _) (.cells #[.int .i64 0, .int .i64 0] 37)
  have H1 := Lib.hid (Rp.below _ h1 hal)
  have H2 := Lib.hid (Rp.below _ h2 hal)
  have HAL := Lib.hid hal
  clear hal h1 h2
  by_cases q1 : a.length = 0
  · have HQ : Hid (guF a b = 9 ∧ guQ a b = (0, 0)) := Lib.hid (gu_bad (f := 9) (if_pos q1) (by decide))
    have hz : ((a.length : Int) == 0) = true := by rw [q1]; rfl
    have c0 : _ = some (Value.int .i64 0) := HK0.out.cell 0
    have c1 : _ = some (Value.int .i64 0) := HK0.out.cell 1
    have f0 := HK0.out.frozen 0
    have f1 := HK0.out.frozen 1
    go_enter Try.func24, Try.ntmps24
    go_wp2_with (at_builtin; fail)
    refine bodyPost_ret (results_row2 rfl _ _ w.heap.size 37 [.int .i64 0, .int .i64 0] _ rfl HK0.out Try.underlying37 rfl rat_info) rfl ?_
    exact (show RPost (guQ a b) (guF a b) w (.returned (.tuple #[.agg #[.int .i64 0, .int .i64 0], .int .i64 9])) _ from ⟨by rw [HQ.out.1, HQ.out.2]; rfl, HAL.out⟩)
  have hz : ((a.length : Int) == 0) = false := by rw [beq_eq_false_iff_ne]; omega
  by_cases q2 : 128 < a.length
  · have HQ : Hid (guF a b = 2 ∧ guQ a b = (0, 0)) := Lib.hid (gu_bad (f := 2) (by unfold guF; rw [if_neg q1, if_pos q2]) (by decide))
    have d1 : (128 : Int) < (a.length : Int) := by omega
    have c0 : _ = some (Value.int .i64 0) := HK0.out.cell 0
    have c1 : _ = some (Value.int .i64 0) := HK0.out.cell 1
    have f0 := HK0.out.frozen 0
    have f1 := HK0.out.frozen 1
    go_enter Try.func24, Try.ntmps24
    go_wp2_with (at_builtin; fail)
    refine bodyPost_ret (results_row2 rfl _ _ w.heap.size 37 [.int .i64 0, .int .i64 0] _ rfl HK0.out Try.underlying37 rfl rat_info) rfl ?_
    exact (show RPost (guQ a b) (guF a b) w (.returned (.tuple #[.agg #[.int .i64 0, .int .i64 0], .int .i64 2])) _ from ⟨by rw [HQ.out.1, HQ.out.2]; rfl, HAL.out⟩)
  have d1 : ¬ (128 : Int) < (a.length : Int) := by omega
  by_cases q3 : b.length = a.length
  case neg =>
    have HQ : Hid (guF a b = 3 ∧ guQ a b = (0, 0)) := Lib.hid (gu_bad (f := 3) (by unfold guF; rw [if_neg q1, if_neg q2, if_neg q3]) (by decide))
    have d2 : ((b.length : Int) != (a.length : Int)) = true := by rw [bne_iff_ne]; omega
    have d3 : ((a.length : Int) != (b.length : Int)) = true := by rw [bne_iff_ne]; omega
    have c0 : _ = some (Value.int .i64 0) := HK0.out.cell 0
    have c1 : _ = some (Value.int .i64 0) := HK0.out.cell 1
    have f0 := HK0.out.frozen 0
    have f1 := HK0.out.frozen 1
    go_enter Try.func24, Try.ntmps24
    go_wp2_with (at_builtin; fail)
    refine bodyPost_ret (results_row2 rfl _ _ w.heap.size 37 [.int .i64 0, .int .i64 0] _ rfl HK0.out Try.underlying37 rfl rat_info) rfl ?_
    exact (show RPost (guQ a b) (guF a b) w (.returned (.tuple #[.agg #[.int .i64 0, .int .i64 0], .int .i64 3])) _ from ⟨by rw [HQ.out.1, HQ.out.2]; rfl, HAL.out⟩)
  case pos =>
    have HQ : Hid (guF a b = 0 ∧ guQ a b = ratQ (eqN a b a.length) a.length) := Lib.hid (gu_good (by unfold guF; rw [if_neg q1, if_neg q2, if_pos q3]))
    have d2 : ((b.length : Int) != (a.length : Int)) = false := by rw [q3]; simp
    have d3 : ((a.length : Int) != (b.length : Int)) = false := by rw [q3]; simp
    have hla : a.length ≤ 128 := by omega
    have hla0 : 0 < a.length := by omega
    have Q3 := Lib.hid q3
    clear q3 q1 q2
    go_enter Try.func24, Try.ntmps24
    go_wp2_with (at_builtin; fail)
    go_loopw [6, 25] (fun vn vi wr => ∃ k : Nat, k ≤ a.length ∧ vi = .int .i64 k ∧ vn = .int .i64 (eqN a b k : Nat) ∧ Hid (Drawn (w.alloc (.cells #[.int .i64 0, .int .i64 0] 37)) wr)) (fun _ vi _ => a.length - (intOf vi).toNat)
    case atStart => exact ⟨0, by omega, rfl, by simp [eqN], Drawn.refl _⟩
    case round =>
      obtain ⟨k, hk, rfl, rfl, HD⟩ := hrel
      by_cases hlt : k < a.length
      · obtain ⟨ad1, u1, rfl, _, hu1, hcell1⟩ := Rp.sl_at1 rfl ((Rp.sl (Rp.int .u64)).drawn H1.out HD.out) hlt
        obtain ⟨ad2, u2, rfl, _, hu2, hcell2⟩ := Rp.sl_at1 rfl ((Rp.sl (Rp.int .u64)).drawn H2.out HD.out) (k := k) (by rw [Q3.out]; exact hlt)
        obtain ⟨hu1, _⟩ := hu1
        injection hu1 with hu1
        subst hu1
        obtain ⟨hu2, _⟩ := hu2
        injection hu2 with hu2
        subst hu2
        have HS := Lib.hid (eqN_succ (a := a) (b := b) (k := k) hlt (by rw [Q3.out]; exact hlt))
        have hle := eqN_le a b k
        have hbl : (k : Int) < (b.length : Int) := by rw [Q3.out]; omega
        have hbl2 : k < b.length := by rw [Q3.out]; omega
        obtain ⟨x, hx⟩ : ∃ x, a[k] = x := ⟨_, rfl⟩
        obtain ⟨y, hy⟩ : ∃ y, b[k] = y := ⟨_, rfl⟩
        rw [hx, hy] at HS
        rw [hx] at hcell1
        rw [hy] at hcell2
        clear hx hy
        generalize eqN a b k = n at *
        by_cases he : x = y
        · have HE : Hid (eqN a b (k + 1) = n + 1) := Lib.hid (by rw [HS.out, if_pos he])
          have h1 : (x == y) = true := by rw [he]; simp
          have h1' : (y == x) = true := by rw [he]; simp
          clear he HS
          go_wp2_with (at_builtin; fail)
          skip
          go_roundw
          case rel => exact ⟨k + 1, by omega, by go_num, by rw [HE.out]; go_num, HD⟩
          case measure => simp [intOf]; omega
        · have HE : Hid (eqN a b (k + 1) = n) := Lib.hid (by rw [HS.out, if_neg he]; rfl)
          have h1 : (x == y) = false := by rw [beq_eq_false_iff_ne]; exact he
          have h1' : (y == x) = false := by rw [beq_eq_false_iff_ne]; exact fun e => he e.symm
          clear he HS
          go_wp2_with (at_builtin; fail)
          skip
          go_roundw
          case rel => exact ⟨k + 1, by omega, by go_num, by rw [HE.out], HD⟩
          case measure => simp [intOf]; omega
      · obtain rfl : k = a.length := by omega
        have hle := eqN_le a b a.length
        obtain ⟨n, hn⟩ : ∃ n, eqN a b a.length = n := ⟨_, rfl⟩
        rw [hn] at HQ hle
        rw [hn]
        clear hn
        have HB := Lib.hid (HD.out.below HAL.out)
        have HK := Lib.hid (HK0.out.same (HD.out.same (fun _ => True)) trivial)
        have hsz := HD.out.size
        clear HD
        go_wp2_with (at_builtin; fail)
        refine (refRatio_any n a.length wr (by omega) (by omega) hla0).mono ?_
        rintro e w5 ⟨rfl, hb5⟩
        have HB5 := Lib.hid (below_trans2 HB.out hb5 HB.out.size)
        have HK5 := Lib.hid (HK.out.same (same_below hb5) HK.out.lt)
        clear hb5 HB HK HAL HK0 hsz
        rw [show ratV n a.length = pairV (ratQ n a.length) from rfl, ← HQ.out.2]
        obtain ⟨x, y, hxy⟩ : ∃ x y : Nat, guQ a b = (x, y) := ⟨_, _, rfl⟩
        have HXY := Lib.hid hxy
        rw [hxy, show pairV (x, y) = .agg #[.int .i64 (x : Nat), .int .i64 (y : Nat)] from rfl]
        clear hxy
        have c0 : _ = some (Value.int .i64 0) := HK5.out.cell 0
        have c1 : _ = some (Value.int .i64 0) := HK5.out.cell 1
        have f0 := HK5.out.frozen 0
        have f1 := HK5.out.frozen 1
        have HF := Lib.hid ((HK5.out.set_ 0 (.int .i64 x)).set_ 1 (.int .i64 y))
        go_wp2_with (at_builtin; fail)
        refine bodyPost_ret (results_row2 rfl _ _ w.heap.size 37 [.int .i64 x, .int .i64 y] _ rfl HF.out Try.underlying37 rfl rat_info) rfl ?_
        exact (show RPost (guQ a b) (guF a b) w (.returned (.tuple #[.agg #[.int .i64 x, .int .i64 y], .int .i64 0])) _ from ⟨by rw [HXY.out, HQ.out.1]; rfl, (HB5.out.setCell (p := ⟨w.heap.size, 0, none⟩) (Nat.le_refl _) _).setCell (p := ⟨w.heap.size, 1, none⟩) (Nat.le_refl _) _⟩)
end Go.Proofs.Ytllbklnljmgppaa
