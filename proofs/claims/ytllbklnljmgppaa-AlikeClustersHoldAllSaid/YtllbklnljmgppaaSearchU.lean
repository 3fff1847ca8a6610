/-
  slices.BinarySearch at []uint64 of a sorted row.
-/
import Derived.Test.YtllbklnljmgppaaProg
import Derived.Test.YtllbklnljmgppaaBase
import Derived.Test.YtllbklnljmgppaaU64
import Derived.Deep.LoopGhost
import Derived.Deep.Draws
import Derived.Lib.SlicesSearch
namespace Go.Proofs.Ytllbklnljmgppaa
open Go.RowKit
set_option linter.unusedVariables false
set_option linter.unusedSimpArgs false

theorem snan64 (x : Int) (w : World) : Calls Try.prog 66 #[.int .u64 x] w fun e w' => e = .returned (.bool false) ∧ w' = w := by
  have hx : (x != x) = false := by simp
  go_enter Try.func66, Try.ntmps66
  go_wp2_with fail
  go_ret
  exact ⟨by simp, rfl⟩
set_option maxHeartbeats 4000000 in
set_option maxRecDepth 1000000 in
theorem search_any (v : Value) (l : List Int) (x : Int) (w : World) (S : Nat → Prop) (h : (Rp.sl (Rp.int .u64)).ok w S [v] l) (hs : l.Pairwise (· < ·)) (hl : l.length ≤ 1000000) :
    Calls Try.prog 59 #[v, .int .u64 x] w fun e w' => (∃ p : Int, e = .returned (.tuple #[.int .i64 p, .bool (l.contains x)])) ∧ ∃ q, w' = w.drewN q := by
  obtain ⟨A, c, rfl, hlc, hc, _⟩ := Rp.sl_open h
  unfold maxLen at hc
  have H := Lib.hid h
  obtain ⟨r, hr⟩ : ∃ r, r = l.contains x := ⟨_, rfl⟩
  have HR := Lib.hid hr
  rw [← hr]
  clear hr
  have SO : Hid (∀ a b, a ≤ b → b < l.length → l.getD a 0 ≤ l.getD b 0) := Lib.hid (Lib.sorted_at l l.length (Nat.le_refl _) (by rw [List.take_length]; exact hs.imp (fun h => Int.le_of_lt h)))
  clear h hs
  go_enter Try.func59, Try.ntmps59
  go_wp2_with fail
  go_loopg [7, 8] l.length (fun g s7 s8 wr => ∃ lo hi q : Nat, s7 = .int .i64 lo ∧ s8 = .int .i64 hi ∧ lo ≤ hi ∧ hi ≤ l.length ∧ hi - lo ≤ g ∧ wr = w.drewN q ∧ Hid ((∀ t, t < lo → l.getD t 0 < x) ∧ (∀ t, hi ≤ t → t < l.length → x ≤ l.getD t 0)))
  case atStart => exact ⟨0, l.length, 0, rfl, rfl, Nat.zero_le _, Nat.le_refl _, by omega, rfl, Lib.hid ⟨fun t ht => absurd ht (Nat.not_lt_zero _), fun t h1 h2 => by omega⟩⟩
  case round =>
    obtain ⟨lo, hi, q, rfl, rfl, hlh, hin, hg, rfl, I⟩ := hrel
    by_cases hlt : lo < hi
    · have hm : (lo + hi) / 2 < l.length := by omega
      obtain ⟨ad, u, e1, _, hu, hcell⟩ := Rp.sl_at1 rfl H.out hm
      subst e1
      obtain ⟨hu1, _⟩ := hu
      injection hu1 with hu1
      subst hu1
      have Y : Hid (l.getD ((lo + hi) / 2) 0 = l[(lo + hi) / 2]) := Lib.hid (Lib.getD_lt l _ hm)
      generalize l[(lo + hi) / 2] = y at *
      by_cases hyx : y < x
      · go_wp2_with (first | (go_at_call 65; refine (less64 _ _ _).mono ?_; rintro e w' ⟨rfl, rfl⟩))
        go_roundg (hi - ((lo + hi) / 2 + 1))
        case measure => omega
        case rel =>
          refine ⟨(lo + hi) / 2 + 1, hi, _, by rw [show ((lo : Int) + (hi : Int)) / 2 + 1 = (((lo + hi) / 2 + 1 : Nat) : Int) by omega], rfl, by omega, hin, Nat.le_refl _, rfl, Lib.hid ⟨fun t ht => ?_, I.out.2⟩⟩
          have := SO.out t ((lo + hi) / 2) (by omega) (by omega)
          rw [Y.out] at this
          omega
      · go_wp2_with (first | (go_at_call 65; refine (less64 _ _ _).mono ?_; rintro e w' ⟨rfl, rfl⟩))
        go_roundg ((lo + hi) / 2 - lo)
        case measure => omega
        case rel =>
          refine ⟨lo, (lo + hi) / 2, _, rfl, by rw [show ((lo : Int) + (hi : Int)) / 2 = (((lo + hi) / 2 : Nat) : Int) by omega], by omega, by omega, Nat.le_refl _, rfl, Lib.hid ⟨I.out.1, fun t ht htn => ?_⟩⟩
          have := SO.out ((lo + hi) / 2) t ht htn
          rw [Y.out] at this
          omega
    · have : hi = lo := by omega
      subst this
      have e2 := (Lib.search_end l l.length hi x (Nat.le_refl _) hin I.out.1 I.out.2 SO.out).2
      rw [List.take_length] at e2
      have E := Lib.hid e2
      clear e2
      by_cases hn : hi < l.length
      · obtain ⟨ad, u, e1, _, hu, hcell⟩ := Rp.sl_at1 rfl H.out hn
        subst e1
        obtain ⟨hu1, _⟩ := hu
        injection hu1 with hu1
        subst hu1
        have Y : Hid (l.getD hi 0 = l[hi]) := Lib.hid (Lib.getD_lt l _ hn)
        generalize l[hi] = y at *
        by_cases hyx : y = x
        · have hb : (y == x) = true := by simp [hyx]
          have HV : Hid (r = true) := Lib.hid (by rw [HR.out, E.out, Y.out, decide_eq_true (show hi < l.length ∧ y = x from ⟨hn, hyx⟩)])
          go_wp2_with (first | (go_at_call 66; refine (snan64 _ _).mono ?_; rintro e w' ⟨rfl, rfl⟩))
          go_ret2
          refine ⟨⟨(hi : Int), ?_⟩, _, rfl⟩
          rw [HV.out]; rfl
        · have hb : (y == x) = false := by simp [hyx]
          have HV : Hid (r = false) := Lib.hid (by rw [HR.out, E.out, Y.out, decide_eq_false (show ¬ (hi < l.length ∧ y = x) from fun h => hyx h.2)])
          go_wp2_with (first | (go_at_call 66; refine (snan64 _ _).mono ?_; rintro e w' ⟨rfl, rfl⟩))
          go_ret2
          refine ⟨⟨(hi : Int), ?_⟩, _, rfl⟩
          rw [HV.out]; rfl
      · have HV : Hid (r = false) := Lib.hid (by rw [HR.out, E.out, decide_eq_false (show ¬ (hi < l.length ∧ l.getD hi 0 = x) from fun h => hn h.1)])
        go_wp2_with fail
        go_ret2
        refine ⟨⟨(hi : Int), ?_⟩, _, rfl⟩
        rw [HV.out]; rfl
end Go.Proofs.Ytllbklnljmgppaa
