/-
  'Many' and 'Stays' of the reference: lines of changes counted.
-/
import Derived.Test.YtofahmdjhpbecaaProg
import Derived.Test.YtofahmdjhpbecaaChgPlain
namespace Go.Proofs.Ytofahmdjhpbecaa
open Go.RowKit
set_option linter.unusedVariables false
set_option linter.unusedSimpArgs false

/-- How many lines the changes have whose kind is so. -/
def sumIf (p : Int → Bool) : List Ch → Nat
  | [] => 0
  | c :: l => (if p c.kind then c.ls.length else 0) + sumIf p l
theorem sumIf_app (p : Int → Bool) : ∀ (a b : List Ch), sumIf p (a ++ b) = sumIf p a + sumIf p b
  | [], b => by simp [sumIf]
  | c :: a, b => by rw [List.cons_append, sumIf, sumIf, sumIf_app p a b]; omega
theorem sumIf_take (p : Int → Bool) (l : List Ch) (k : Nat) (h : k < l.length) : sumIf p (l.take (k + 1)) = sumIf p (l.take k) + if p l[k].kind then l[k].ls.length else 0 := by
  rw [List.take_succ_eq_append_getElem h, sumIf_app]; simp [sumIf]
theorem sumIf_le (p : Int → Bool) (l : List Ch) (k : Nat) : sumIf p (l.take k) ≤ sumIf p l := by
  conv => rhs; rw [← List.take_append_drop k l]
  rw [sumIf_app]; omega
theorem sumIf_all (p : Int → Bool) : ∀ l : List Ch, sumIf p l ≤ sumIf (fun _ => true) l
  | [] => Nat.le_refl _
  | c :: l => by rw [sumIf, sumIf]; have := sumIf_all p l; split <;> simp <;> omega
set_option maxRecDepth 100000 in
set_option maxHeartbeats 1000000 in
theorem stays_any (v : Value) (l : List Ch) (w : World) (h : (Rp.sl chRp).ok w (· < w.heap.size) [v] l) (hm : sumIf (fun _ => true) l ≤ 1000000) :
    Calls Try.prog 55 #[v] w fun e w' => e = .returned (.int .i64 (sumIf (fun k => k == 1) l : Nat)) ∧ Below w.heap.size w w' := by
  obtain ⟨A, c, rfl, hl, hc, _⟩ := Rp.sl_open h
  unfold maxLen at hc
  have H := Lib.hid h
  have ha := sumIf_all (fun k => k == 1) l
  have HM : Hid (sumIf (fun k => k == 1) l ≤ 1000000) := Lib.hid (by omega)
  clear h ha hm
  go_enter Try.func55, Try.ntmps55
  go_wp2
  go_loopw [3, 8] (fun vs i wr => ∃ k s : Nat, k ≤ l.length ∧ i = .int .i64 k ∧ vs = .int .i64 s ∧ Hid (s = sumIf (fun k => k == 1) (l.take k)) ∧ Hid (Below w.heap.size w wr)) (fun _ i _ => l.length - (intOf i).toNat)
  case atStart => exact ⟨0, 0, by omega, rfl, rfl, rfl, Below.refl _ _⟩
  case round =>
    obtain ⟨k, s, hk, rfl, rfl, HS, HB⟩ := hrel
    by_cases hlt : k < l.length
    · obtain ⟨ad, us, rfl, _, hadb, hu, hcell⟩ := Rp.sl_at (Rp.below _ H.out HB.out) hlt
      obtain ⟨vb, rfl, hvb, hw1⟩ := ch_open hu
      have c0 : wr.cell? (ad.add (k * 2)) = some (.int .i64 l[k].kind) := hcell 0 _ rfl
      have c1 := hcell 1 _ rfl
      rw [add_fld _ _ _ (by omega)] at c1
      change wr.cell? ⟨(ad.add (k * 2)).block, (ad.add (k * 2)).off + 1, none⟩ = some vb at c1
      obtain ⟨A3, c3, rfl, hl3, hc3, _⟩ := Rp.sl_open hvb
      rw [List.length_map] at hl3 c1
      unfold maxLen at hc3
      have ht := sumIf_take (fun k => k == 1) l k hlt
      have hle := sumIf_le (fun k => k == 1) l (k + 1)
      have hmm := HM.out
      rw [ht, ← HS.out] at hle
      have HT := Lib.hid ht
      clear hcell hu hvb hw1 ht hadb
      generalize l[k] = ch at *
      obtain ⟨kind, ls⟩ := ch
      simp only [] at c0 c1 hl3 hle
      have HHB := Lib.hid (HB.out.alloc HB.out.size (.cells #[.int .i64 kind, .slice A3 ls.length c3] 109))
      by_cases hk1 : kind = 1
      · subst hk1
        have HT1 : Hid (s + ls.length = sumIf (fun k => k == 1) (l.take (k + 1))) := by show _ = _; rw [HT.out, ← HS.out]; rfl
        have hs : s + ls.length ≤ 1000000 := by simp at hle; omega
        clear hle hmm
        go_wp2
        go_roundw
        case rel => exact ⟨k + 1, s + ls.length, by omega, by go_num, by go_num, HT1, HHB⟩
        case measure => simp [intOf]; omega
      · have hb : (kind == 1) = false := by rw [beq_eq_false_iff_ne]; exact hk1
        have HT1 : Hid (s = sumIf (fun k => k == 1) (l.take (k + 1))) := by show _ = _; rw [HT.out, ← HS.out]; simp [hb]
        clear hle hmm
        go_wp2
        go_roundw
        case rel => exact ⟨k + 1, s, by omega, by go_num, rfl, HT1, HHB⟩
        case measure => simp [intOf]; omega
    · obtain rfl : k = l.length := by omega
      rw [List.take_length] at HS
      go_wp2
      go_ret
      exact ⟨by rw [← HS.out]; rfl, HB.out⟩
set_option maxRecDepth 100000 in
set_option maxHeartbeats 1000000 in
theorem many_any (v : Value) (l : List Ch) (w : World) (h : (Rp.sl chRp).ok w (· < w.heap.size) [v] l) (hm : sumIf (fun _ => true) l ≤ 1000000) :
    Calls Try.prog 54 #[v] w fun e w' => e = .returned (.tuple #[.int .i64 (sumIf (fun k => k != 3) l : Nat), .int .i64 (sumIf (fun k => k != 2) l : Nat)]) ∧ Below w.heap.size w w' := by
  obtain ⟨A, c, rfl, hl, hc, _⟩ := Rp.sl_open h
  unfold maxLen at hc
  have H := Lib.hid h
  have ha := sumIf_all (fun k => k != 3) l
  have ha2 := sumIf_all (fun k => k != 2) l
  have HM : Hid (sumIf (fun k => k != 3) l ≤ 1000000) := Lib.hid (by omega)
  have HM2 : Hid (sumIf (fun k => k != 2) l ≤ 1000000) := Lib.hid (by omega)
  clear h ha ha2 hm
  go_enter Try.func54, Try.ntmps54
  go_wp2
  go_loopw [2, 3, 8] (fun vs vt i wr => ∃ k s t : Nat, k ≤ l.length ∧ i = .int .i64 k ∧ vs = .int .i64 s ∧ vt = .int .i64 t ∧ Hid (s = sumIf (fun k => k != 3) (l.take k)) ∧ Hid (t = sumIf (fun k => k != 2) (l.take k)) ∧ Hid (Below w.heap.size w wr)) (fun _ _ i _ => l.length - (intOf i).toNat)
  case atStart => exact ⟨0, 0, 0, by omega, rfl, rfl, rfl, rfl, rfl, Below.refl _ _⟩
  case round =>
    obtain ⟨k, s, t, hk, rfl, rfl, rfl, HS, HT0, HB⟩ := hrel
    by_cases hlt : k < l.length
    · obtain ⟨ad, us, rfl, _, hadb, hu, hcell⟩ := Rp.sl_at (Rp.below _ H.out HB.out) hlt
      obtain ⟨vb, rfl, hvb, hw1⟩ := ch_open hu
      have c0 : wr.cell? (ad.add (k * 2)) = some (.int .i64 l[k].kind) := hcell 0 _ rfl
      have c1 := hcell 1 _ rfl
      rw [add_fld _ _ _ (by omega)] at c1
      change wr.cell? ⟨(ad.add (k * 2)).block, (ad.add (k * 2)).off + 1, none⟩ = some vb at c1
      obtain ⟨A3, c3, rfl, hl3, hc3, _⟩ := Rp.sl_open hvb
      rw [List.length_map] at hl3 c1
      unfold maxLen at hc3
      have ht := sumIf_take (fun k => k != 3) l k hlt
      have hle := sumIf_le (fun k => k != 3) l (k + 1)
      have ht2 := sumIf_take (fun k => k != 2) l k hlt
      have hle2 := sumIf_le (fun k => k != 2) l (k + 1)
      have hmm := HM.out
      have hmm2 := HM2.out
      rw [ht, ← HS.out] at hle
      rw [ht2, ← HT0.out] at hle2
      have HT := Lib.hid ht
      have HT2 := Lib.hid ht2
      clear hcell hu hvb hw1 ht ht2 hadb
      generalize l[k] = ch at *
      obtain ⟨kind, ls⟩ := ch
      simp only [] at c0 c1 hl3 hle hle2
      have HHB := Lib.hid (HB.out.alloc HB.out.size (.cells #[.int .i64 kind, .slice A3 ls.length c3] 109))
      by_cases hk1 : kind = 3
      · have b3 : (kind != 3) = false := by simp [hk1]
        have b2 : (kind != 2) = true := by simp [hk1]
        clear hk1
        have HT1 : Hid (s = sumIf (fun k => k != 3) (l.take (k + 1))) := by show _ = _; rw [HT.out, ← HS.out]; simp [b3]
        have HT3 : Hid (t + ls.length = sumIf (fun k => k != 2) (l.take (k + 1))) := by show _ = _; rw [HT2.out, ← HT0.out]; simp [b2]
        have hs2 : t + ls.length ≤ 1000000 := by simp [b2] at hle2; omega
        clear hle hmm hle2 hmm2
        go_wp2
        go_roundw
        case rel => exact ⟨k + 1, s, t + ls.length, by omega, by go_num, by go_num, by go_num, HT1, HT3, HHB⟩
        case measure => simp [intOf]; omega
      · have b3 : (kind != 3) = true := by simpa using hk1
        by_cases hk2 : kind = 2
        · have b2 : (kind != 2) = false := by simp [hk2]
          clear hk2
          have HT1 : Hid (s + ls.length = sumIf (fun k => k != 3) (l.take (k + 1))) := by show _ = _; rw [HT.out, ← HS.out]; simp [b3]
          have HT3 : Hid (t = sumIf (fun k => k != 2) (l.take (k + 1))) := by show _ = _; rw [HT2.out, ← HT0.out]; simp [b2]
          have hs : s + ls.length ≤ 1000000 := by simp [b3] at hle; omega
          clear hle hmm hle2 hmm2
          go_wp2
          go_roundw
          case rel => exact ⟨k + 1, s + ls.length, t, by omega, by go_num, by go_num, by go_num, HT1, HT3, HHB⟩
          case measure => simp [intOf]; omega
        · have b2 : (kind != 2) = true := by simpa using hk2
          have HT1 : Hid (s + ls.length = sumIf (fun k => k != 3) (l.take (k + 1))) := by show _ = _; rw [HT.out, ← HS.out]; simp [b3]
          have HT3 : Hid (t + ls.length = sumIf (fun k => k != 2) (l.take (k + 1))) := by show _ = _; rw [HT2.out, ← HT0.out]; simp [b2]
          have hs : s + ls.length ≤ 1000000 := by simp [b3] at hle; omega
          have hs2 : t + ls.length ≤ 1000000 := by simp [b2] at hle2; omega
          clear hle hmm hle2 hmm2
          go_wp2
          go_roundw
          case rel => exact ⟨k + 1, s + ls.length, t + ls.length, by omega, by go_num, by go_num, by go_num, HT1, HT3, HHB⟩
          case measure => simp [intOf]; omega
    · obtain rfl : k = l.length := by omega
      rw [List.take_length] at HS HT0
      go_wp2
      go_ret2
      exact ⟨by rw [← HS.out, ← HT0.out]; rfl, HB.out⟩
end Go.Proofs.Ytofahmdjhpbecaa
