/-
  'checkChange' of package alike: the form of one change.
-/
import Derived.Test.YtofahmdjhpbecaaProg
import Derived.Test.YtofahmdjhpbecaaChgPlain
import Derived.Test.YtofahmdjhpbecaaIsLine
namespace Go.Proofs.Ytofahmdjhpbecaa
open Go.RowKit
set_option linter.unusedVariables false
set_option linter.unusedSimpArgs false

/-- The first fault of a change. -/
def chFault (c : Ch) : Int := if c.kind < 1 ∨ 3 < c.kind then 4 else if c.ls = [] then 9 else if c.ls.all lineOk = true then 0 else 3
theorem index_neg (c : UInt8) : ∀ l : List UInt8, Lib.indexByte l c < 0 ↔ c ∉ l
  | [] => by simp [Lib.indexByte]
  | b :: l => by
    have ih := index_neg c l
    have hg := Lib.indexByte_ge l c
    rw [Lib.indexByte]
    by_cases hb : b = c
    · subst hb; simp
    · have hbc : (b == c) = false := by rw [beq_eq_false_iff_ne]; exact hb
      rw [hbc, List.mem_cons]
      by_cases hm : c ∈ l
      · have h0 : ¬ Lib.indexByte l c < 0 := fun h => ih.1 h hm
        have h1 : (Lib.indexByte l c == -1) = false := by rw [beq_eq_false_iff_ne]; omega
        rw [h1]
        simp only [Bool.false_eq_true, if_false]
        constructor
        · intro h; omega
        · intro h; exact absurd (.inr hm) h
      · have h0 := ih.2 hm
        have h1 : (Lib.indexByte l c == -1) = true := by rw [beq_iff_eq]; omega
        rw [h1]
        simp only [Bool.false_eq_true, if_false, if_true]
        constructor
        · rintro - (h | h)
          · exact hb h.symm
          · exact hm h
        · intro _; decide
theorem lineOk_index {t : List UInt8} (h0 : t ≠ []) : lineOk t = true ↔ Lib.indexByte (t.take (t.length - 1)) 10 < 0 := by
  rw [index_neg, lineOk, decide_eq_true_eq, List.dropLast_eq_take]
  exact ⟨fun h => h.2, fun h => ⟨h0, h⟩⟩
set_option maxRecDepth 100000 in
set_option maxHeartbeats 1000000 in
theorem checkChange_any (c : Ch) (A : Option Addr) (cp : Nat) (w : World) (h : (Rp.sl Rp.str).ok w (· < w.heap.size) [.slice A c.ls.length cp] (c.ls.map bstr)) :
    Calls Try.prog 98 #[.agg #[.int .i64 c.kind, .slice A c.ls.length cp]] w fun e w' => e = .returned (.int .i64 (chFault c)) ∧ Below w.heap.size w w' := by
  have hl : c.ls.length ≤ 9223372036854775807 := by
    obtain ⟨A', c', e', hl, hc, _⟩ := Rp.sl_open h
    rw [List.length_map] at hl
    unfold maxLen at hc
    omega
  have H := Lib.hid h
  have hal := (Below.refl w.heap.size w).alloc (Nat.le_refl _) (.cells #[.int .i64 c.kind, .slice A c.ls.length cp] 109)
  have HAL := Lib.hid hal
  clear h hal
  by_cases hk : c.kind < 1 ∨ 3 < c.kind
  · have HF : Hid (chFault c = 4) := Lib.hid (if_pos hk)
    have key : c.kind < 1 ∨ (1 ≤ c.kind ∧ 3 < c.kind) := by omega
    clear hk
    rcases key with q | ⟨q, q2⟩
    all_goals
      go_enter Try.func98, Try.ntmps98
      go_wp2
      go_ret
      exact ⟨by rw [HF.out]; rfl, HAL.out⟩
  have q1 : 1 ≤ c.kind := by omega
  have q2 : c.kind ≤ 3 := by omega
  have HF0 : Hid (chFault c = if c.ls = [] then 9 else if c.ls.all lineOk = true then 0 else 3) := Lib.hid (if_neg hk)
  clear hk
  by_cases h0 : c.ls.length = 0
  · have HF : Hid (chFault c = 9) := Lib.hid (by rw [HF0.out, if_pos (List.eq_nil_of_length_eq_zero h0)])
    have hb : ((c.ls.length : Int) == 0) = true := by simp [h0]
    clear h0
    go_enter Try.func98, Try.ntmps98
    go_wp2
    go_ret
    exact ⟨by rw [HF.out]; rfl, HAL.out⟩
  have hb : ((c.ls.length : Int) == 0) = false := by rw [beq_eq_false_iff_ne]; omega
  have HF1 : Hid (chFault c = if c.ls.all lineOk = true then 0 else 3) := Lib.hid (by rw [HF0.out, if_neg (fun e => h0 (by rw [e]; rfl))])
  have HR := Lib.hid (Rp.ext _ H.out ((Below.refl w.heap.size w).alloc (Nat.le_refl _) (.cells #[.int .i64 c.kind, .slice A c.ls.length cp] 109)))
  clear HF0 h0
  go_enter Try.func98, Try.ntmps98
  go_wp2
  go_loop [20] (fun i => ∃ k : Nat, k ≤ c.ls.length ∧ i = .int .i64 k ∧ Hid ((c.ls.take k).all lineOk = true)) (fun i => c.ls.length - (intOf i).toNat)
  case atStart => exact ⟨0, by omega, rfl, rfl⟩
  case round =>
    obtain ⟨k, hk, rfl, HT⟩ := hrel
    by_cases hlt : k < c.ls.length
    · obtain ⟨ad, us, rfl, _, hu, hcell⟩ := Rp.sl_at1 rfl HR.out (k := k) (by simpa using hlt)
      obtain ⟨e1, hz⟩ := hu
      injection e1 with e1
      subst e1
      rw [List.getElem_map] at hcell hz
      have hin := List.getElem_mem hlt
      have HTK : Hid (lineOk c.ls[k] = true → (c.ls.take (k + 1)).all lineOk = true) := fun h => by
        rw [List.take_succ_eq_append_getElem hlt, List.all_append, HT.out]; simpa using h
      have HBAD : Hid (lineOk c.ls[k] = false → chFault c = 3) := fun h => by
        rw [HF1.out, if_neg]
        rw [List.all_eq_true]
        exact fun e => by have := e _ hin; rw [h] at this; cases this
      have HIX := Lib.hid (@lineOk_index c.ls[k])
      clear hin
      generalize c.ls[k] = t at *
      have hsz : (bstr t).size = t.length := rfl
      rw [hsz] at hz
      unfold maxLen at hz
      by_cases ht : t = []
      · have HF := Lib.hid (HBAD.out (decide_eq_false (fun h => h.1 ht)))
        have hbs := bstr_empty ht
        clear ht
        go_wp2
        go_ret
        exact ⟨by rw [HF.out]; rfl, HAL.out⟩
      · have hpos := List.length_pos_iff.2 ht
        have HX := Lib.hid (HIX.out ht)
        have hbs := bstr_some ht
        have E1 := Lib.hid (extract_head t (t.length - 1))
        clear ht
        go_wp2_with fail
        rw [E1.out]
        refine (indexByte_any _ _ _).mono ?_
        rintro e w1 ⟨rfl, rfl⟩
        rw [show (Int.toNat 10).toUInt8 = 10 from rfl, bstr_data]
        generalize Lib.indexByte (List.take (t.length - 1) t) 10 = ix at *
        by_cases hix : ix < 0
        · have HT2 := Lib.hid (HTK.out (HX.out.2 hix))
          go_wp2
          go_round
          case rel => exact ⟨k + 1, by omega, by go_num, HT2⟩
          case measure => simp [intOf]; omega
        · have HF := Lib.hid (HBAD.out (by rw [Bool.eq_false_iff]; exact fun h => hix (HX.out.1 h)))
          have hix' : 0 ≤ ix := by omega
          clear hix
          go_wp2
          go_ret
          exact ⟨by rw [HF.out]; rfl, HAL.out⟩
    · obtain rfl : k = c.ls.length := by omega
      have HF : Hid (chFault c = 0) := Lib.hid (by rw [HF1.out, if_pos]; have := HT.out; rwa [List.take_length] at this)
      go_wp2
      go_ret
      exact ⟨by rw [HF.out]; rfl, HAL.out⟩
end Go.Proofs.Ytofahmdjhpbecaa
