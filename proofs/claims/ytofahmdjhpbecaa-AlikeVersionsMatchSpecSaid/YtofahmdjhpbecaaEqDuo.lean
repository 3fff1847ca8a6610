/-
  'slices.Equal' at the element types of this seat: true just if both slices read as the same list. It only reads.
-/
import Derived.Test.YtofahmdjhpbecaaProg
import Derived.Test.YtofahmdjhpbecaaEq
namespace Go.Proofs.Ytofahmdjhpbecaa
open Go.RowKit
set_option linter.unusedVariables false
set_option linter.unusedSimpArgs false

set_option maxRecDepth 100000 in
set_option maxHeartbeats 400000 in
theorem eqDuo_any (v1 v2 : Value) (a b : List (Int × Int)) (w : World) (S T : Nat → Prop) (h1 : (Rp.sl (Rp.pair (Rp.int .i64) (Rp.int .i64))).ok w S [v1] a) (h2 : (Rp.sl (Rp.pair (Rp.int .i64) (Rp.int .i64))).ok w T [v2] b) :
    Calls Try.prog 22 #[v1, v2] w fun e w' => e = .returned (.bool (decide (a = b))) ∧ ∃ n, w' = w.drewN n := by
  obtain ⟨A, c, rfl, hl1, hc1, _⟩ := Rp.sl_open h1
  obtain ⟨B, d, rfl, hl2, hc2, _⟩ := Rp.sl_open h2
  unfold maxLen at hc1 hc2
  by_cases hlen : a.length = b.length
  · have hab : ((a.length : Int) != (b.length : Int)) = false := by simp [hlen]
    have HL := Lib.hid hlen
    clear hlen
    go_enter Try.func22, Try.ntmps22
    go_wp2
    go_loopw [13] (fun i wr => ∃ k n : Nat, k ≤ a.length ∧ i = .int .i64 k ∧ Hid (a.take k = b.take k) ∧ wr = w.drewN n) (fun i _ => a.length - (intOf i).toNat)
    case atStart => exact ⟨0, 0, Nat.zero_le _, rfl, rfl, rfl⟩
    case round =>
      obtain ⟨k, n, hk, rfl, HT, rfl⟩ := hrel
      by_cases hlt : k < a.length
      · have hlb : k < b.length := by rw [← HL.out]; exact hlt
        obtain ⟨ad1, us1, rfl, _, _, hu1, hcell1⟩ := Rp.sl_at h1 hlt
        obtain ⟨ad2, us2, rfl, _, _, hu2, hcell2⟩ := Rp.sl_at h2 hlb
        rw [Rp.pair_int hu1] at hcell1
        rw [Rp.pair_int hu2] at hcell2
        have c10 : w.cell? (ad1.add (k * 2)) = some (.int .i64 a[k].1) := hcell1 0 _ rfl
        have c11 := hcell1 1 _ rfl
        rw [add_fld _ _ _ (by omega)] at c11
        have c20 : w.cell? (ad2.add (k * 2)) = some (.int .i64 b[k].1) := hcell2 0 _ rfl
        have c21 := hcell2 1 _ rfl
        rw [add_fld _ _ _ (by omega)] at c21
        simp only [Rp.pair, Rp.int] at c11 c21
        clear hcell1 hcell2 hu1 hu2
        clear h1 h2 hab
        have fin : ∀ n', a[k].1 ≠ b[k].1 ∨ a[k].2 ≠ b[k].2 → (Ending.returned (.bool false) : Ending) = .returned (.bool (decide (a = b))) ∧ ∃ m, w.drewN n' = w.drewN m := fun n' h =>
          ⟨by rw [decide_eq_false (ne_of_get hlt hlb (fun e => by rw [e] at h; exact h.elim (· rfl) (· rfl)))], n', rfl⟩
        have HF := Lib.hid fin
        clear fin
        by_cases e1 : a[k].1 = b[k].1
        · by_cases e2 : a[k].2 = b[k].2
          · have HE := Lib.hid (Prod.ext e1 e2)
            clear HF
            go_wp2
            go_region
            all_goals go_wp2
            all_goals go_roundw
            all_goals first
              | exact ⟨k + 1, _, by omega, by go_num, take_eq_succ HT.out hlt hlb HE.out, rfl⟩
              | (simp [intOf]; omega)
          · have E2 := Lib.hid e2
            go_wp2
            go_region
            all_goals go_wp2
            all_goals go_ret
            all_goals exact HF.out _ (.inr E2.out)
        · have E1 := Lib.hid e1
          go_wp2
          go_region
          all_goals go_wp2
          all_goals go_ret
          all_goals exact HF.out _ (.inl E1.out)
      · have hd : decide (a = b) = true := decide_eq_true (eq_of_takes HT.out (by omega) HL.out)
        clear h1 h2 hab
        go_wp2
        go_ret
        exact ⟨by rw [hd]; rfl, _, rfl⟩
  · have hab : ((a.length : Int) != (b.length : Int)) = true := by simp; omega
    have hd : decide (a = b) = false := decide_eq_false (by rintro rfl; exact hlen rfl)
    clear hlen
    go_enter Try.func22, Try.ntmps22
    go_wp2
    go_ret
    exact ⟨by rw [hd]; rfl, 0, rfl⟩

end Go.Proofs.Ytofahmdjhpbecaa
