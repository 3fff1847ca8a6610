/-
  How many numbers are in both of two rising rows: of both packages.
-/
import Derived.Test.YtnkdcmibafjplaaGreatDoorProg
import Derived.Test.YtnkdcmibafjplaaGreatDoorSearchU
import Derived.Deep.QuietTactic
import Derived.BigQuiet
namespace Go.Proofs.YtnkdcmibafjplaaGreatDoor
open Go.RowKit
set_option linter.unusedVariables false
set_option linter.unusedSimpArgs false

/-! ### Plain -/
def com (a b : List Int) : Nat := a.countP (b.contains ·)
theorem com_le (a b : List Int) : com a b ≤ a.length := List.countP_le_length
theorem drop_ge {b : List Int} (hb : b.Pairwise (· < ·)) {k : Nat} (hk : k < b.length) : ∀ y ∈ b.drop k, b[k] ≤ y := by
  intro y hy
  have hp : (b.drop k).Pairwise (· < ·) := hb.drop
  rw [List.drop_eq_getElem_cons hk] at hy hp
  rcases List.mem_cons.1 hy with rfl | h
  · exact Int.le_refl _
  · exact Int.le_of_lt ((List.pairwise_cons.1 hp).1 y h)
theorem com_lt {a b : List Int} {i k : Nat} (hb : b.Pairwise (· < ·)) (hi : i < a.length) (hk : k < b.length) (h : a[i] < b[k]) : com (a.drop i) (b.drop k) = com (a.drop (i + 1)) (b.drop k) := by
  unfold com
  rw [List.drop_eq_getElem_cons hi, List.countP_cons, if_neg, Nat.add_zero]
  rw [List.contains_iff_mem]
  intro hm
  have := drop_ge hb hk _ hm
  omega
theorem com_gt {a b : List Int} {i k : Nat} (ha : a.Pairwise (· < ·)) (hi : i < a.length) (hk : k < b.length) (h : b[k] < a[i]) : com (a.drop i) (b.drop k) = com (a.drop i) (b.drop (k + 1)) := by
  unfold com
  refine List.countP_congr (fun x hx => ?_)
  have := drop_ge ha hi x hx
  rw [List.drop_eq_getElem_cons hk, List.contains_iff_mem, List.contains_iff_mem, List.mem_cons]
  refine ⟨fun h => h.elim (fun e => by omega) id, Or.inr⟩
theorem com_same {a b : List Int} {i k : Nat} (ha : a.Pairwise (· < ·)) (hi : i < a.length) (hk : k < b.length) (h : a[i] = b[k]) : com (a.drop i) (b.drop k) = com (a.drop (i + 1)) (b.drop (k + 1)) + 1 := by
  unfold com
  rw [List.drop_eq_getElem_cons hi, List.countP_cons, if_pos (by rw [List.contains_iff_mem, List.drop_eq_getElem_cons hk, h]; exact List.mem_cons_self ..)]
  congr 1
  refine List.countP_congr (fun x hx => ?_)
  have hp : (a.drop i).Pairwise (· < ·) := ha.drop
  rw [List.drop_eq_getElem_cons hi] at hp
  have := (List.pairwise_cons.1 hp).1 x hx
  rw [List.drop_eq_getElem_cons hk, List.contains_iff_mem, List.contains_iff_mem, List.mem_cons]
  refine ⟨fun h => h.elim (fun e => by omega) id, Or.inr⟩
theorem com_end {a b : List Int} {i k : Nat} (h : a.length ≤ i ∨ b.length ≤ k) : com (a.drop i) (b.drop k) = 0 := by
  unfold com
  rcases h with h | h
  · rw [List.drop_of_length_le h]; rfl
  · rw [List.drop_of_length_le h]; simp
theorem com_take_succ (a b : List Int) (k : Nat) (h : k < a.length) : com (a.take (k + 1)) b = com (a.take k) b + if b.contains a[k] = true then 1 else 0 := by
  unfold com
  rw [List.take_succ_eq_append_getElem h, List.countP_append, List.countP_cons, List.countP_nil, Nat.zero_add]
/-! ### Walks -/
set_option maxHeartbeats 4000000 in
set_option maxRecDepth 1000000 in
theorem common_any (v1 v2 : Value) (a b : List Int) (w : World) (S T : Nat → Prop) (h1 : (Rp.sl (Rp.int .u64)).ok w S [v1] a) (h2 : (Rp.sl (Rp.int .u64)).ok w T [v2] b) (sa : a.Pairwise (· < ·)) (sb : b.Pairwise (· < ·)) (la : a.length ≤ 1000000) (lb : b.length ≤ 1000000) :
    Calls Tryz.prog 51 #[v1, v2] w fun e w' => e = .returned (.int .i64 (com a b : Nat)) ∧ ∃ q, w' = w.drewN q := by
  obtain ⟨A, c, rfl, hlc1, hc1, _⟩ := Rp.sl_open h1
  obtain ⟨B, d, rfl, hlc2, hc2, _⟩ := Rp.sl_open h2
  unfold maxLen at hc1 hc2
  have H1 := Lib.hid h1
  have H2 := Lib.hid h2
  have SA := Lib.hid sa
  have SB := Lib.hid sb
  have HN := Lib.hid (com_le a b)
  clear h1 h2 sa sb
  go_enter Tryz.func51, Tryz.ntmps51
  go_wp2_with fail
  go_loopw [5, 6, 7] (fun vn vi vk wr => ∃ n i k q : Nat, vn = .int .i64 n ∧ vi = .int .i64 i ∧ vk = .int .i64 k ∧ i ≤ a.length ∧ k ≤ b.length ∧ wr = w.drewN q ∧ n ≤ i ∧ Hid (n + com (a.drop i) (b.drop k) = com a b)) (fun _ vi vk _ => (a.length - (intOf vi).toNat) + (b.length - (intOf vk).toNat))
  case atStart => exact ⟨0, 0, 0, 0, rfl, rfl, rfl, Nat.zero_le _, Nat.zero_le _, rfl, Nat.le_refl _, Lib.hid (by simp)⟩
  case round =>
    obtain ⟨n, i, k, q, rfl, rfl, rfl, hi, hk, rfl, hni, HC⟩ := hrel
    have q1 : IntKind.i64.wrap ((n : Int) + 1) = ((n + 1 : Nat) : Int) := by rw [IntKind.wrap_i64]; omega
    have q2 : IntKind.i64.wrap ((i : Int) + 1) = ((i + 1 : Nat) : Int) := by rw [IntKind.wrap_i64]; omega
    have q3 : IntKind.i64.wrap ((k : Int) + 1) = ((k + 1 : Nat) : Int) := by rw [IntKind.wrap_i64]; omega
    by_cases hia : i < a.length
    · by_cases hkb : k < b.length
      · obtain ⟨ad1, u1, e1, _, hu1, cell1⟩ := Rp.sl_at1 rfl H1.out hia
        obtain ⟨ad2, u2, e2, _, hu2, cell2⟩ := Rp.sl_at1 rfl H2.out hkb
        subst e1 e2
        obtain ⟨hu1, _⟩ := hu1
        injection hu1 with hu1
        subst hu1
        obtain ⟨hu2, _⟩ := hu2
        injection hu2 with hu2
        subst hu2
        have i1 : (i : Int) < (a.length : Int) := by omega
        have i2 : (k : Int) < (b.length : Int) := by omega
        have KL := Lib.hid (com_lt (a := a) SB.out hia hkb)
        have KG := Lib.hid (com_gt (b := b) SA.out hia hkb)
        have KE := Lib.hid (com_same (b := b) SA.out hia hkb)
        generalize a[i] = x at *
        generalize b[k] = y at *
        by_cases hlt : x < y
        · have HC2 : Hid (n + com (a.drop (i + 1)) (b.drop k) = com a b) := Lib.hid (by rw [← KL.out hlt]; exact HC.out)
          clear KL KG KE HC
          go_wp2_with fail
          go_quiet (fail)
          go_wp2_with fail
          go_roundw
          case rel => exact ⟨n, i + 1, k, _, rfl, by go_num, rfl, by omega, by omega, by first | rfl | rw [World.drewN_drewN], by omega, HC2⟩
          case measure => simp [intOf]; omega
        · by_cases hgt : y < x
          · have HC2 : Hid (n + com (a.drop i) (b.drop (k + 1)) = com a b) := Lib.hid (by rw [← KG.out hgt]; exact HC.out)
            clear KL KG KE HC
            go_wp2_with fail
            go_quiet (fail)
            go_wp2_with fail
            go_quiet (fail)
            go_wp2_with fail
            go_roundw
            case rel => exact ⟨n, i, k + 1, _, rfl, rfl, by go_num, by omega, by omega, rfl, by omega, HC2⟩
            case measure => simp [intOf]; omega
          · have HC2 : Hid (n + 1 + com (a.drop (i + 1)) (b.drop (k + 1)) = com a b) := Lib.hid (by have h1 := KE.out (by omega); have h2 := HC.out; omega)
            clear KL KG KE HC
            go_wp2_with fail
            go_quiet (fail)
            go_wp2_with fail
            go_quiet (fail)
            go_wp2_with fail
            go_roundw
            case rel => exact ⟨n + 1, i + 1, k + 1, _, by go_num, by go_num, by go_num, by omega, by omega, rfl, by omega, HC2⟩
            case measure => simp [intOf]; omega
      · have HR : Hid (n = com a b) := Lib.hid (by have h1 := HC.out; rw [com_end (.inr (by omega))] at h1; exact h1)
        go_wp2_with fail
        go_ret
        exact ⟨by rw [← HR.out]; rfl, _, rfl⟩
    · have HR : Hid (n = com a b) := Lib.hid (by have h1 := HC.out; rw [com_end (.inl (by omega))] at h1; exact h1)
      go_wp2_with fail
      go_ret
      exact ⟨by rw [← HR.out]; rfl, _, rfl⟩
end Go.Proofs.YtnkdcmibafjplaaGreatDoor
