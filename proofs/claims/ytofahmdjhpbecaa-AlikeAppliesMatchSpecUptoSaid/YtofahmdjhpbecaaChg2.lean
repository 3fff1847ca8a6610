/-
  'Lines', 'both' and 'Changes' of package alike, 'Lines' of the reference.
-/
import Derived.Test.YtofahmdjhpbecaaProg
import Derived.Test.YtofahmdjhpbecaaChg
import Derived.Test.YtofahmdjhpbecaaLines
import Derived.Test.YtofahmdjhpbecaaFinger
namespace Go.Proofs.Ytofahmdjhpbecaa
open Go.RowKit
set_option linter.unusedVariables false
set_option linter.unusedSimpArgs false

theorem linesL_size (t : List UInt8) : ∀ s ∈ linesL t, s.length ≤ t.length := by
  match t with
  | [] => intro s hs; rw [linesL_nil] at hs; cases hs
  | c :: t =>
    intro s hs
    rw [linesL_cons (by simp), List.mem_cons] at hs
    rcases hs with rfl | hs
    · rw [List.length_take]; omega
    · have := linesL_size _ s hs
      rw [List.length_drop] at this; omega
termination_by t.length
decreasing_by have := @lnLen_pos' c t; simp only [List.length_drop, List.length_cons]; omega
theorem lines_read {t : List UInt8} {w w' : World} {e : Ending} (ht : t.length ≤ 20000) (h : LinesPost t w e w') : ∃ v, e = .returned v ∧ (Rp.sl Rp.str).ok w' (· < w'.heap.size) [v] ((linesL t).map bstr) ∧ Below w.heap.size w w' := by
  obtain ⟨v, rfl, h1, h2⟩ := h
  refine ⟨v, rfl, Rp.str_own (n := (linesL t).length) (B := w.heap.size) (e := 9) (by rw [List.map_map]; exact h1) (fun x hx => ?_) (fun g hg => (h1.lt g hg).2), h2⟩
  obtain ⟨s, hs, rfl⟩ := List.mem_map.1 hx
  have := linesL_size t s hs
  rw [bstr_size]; unfold maxLen; omega
def linesOut (t : List UInt8) : List ByteArray := if t.length ≤ 20000 then (linesL t).map bstr else []
def lnFault (t : List UInt8) : Int := if t.length ≤ 20000 then 0 else 2
def LinesTop (t : List UInt8) (w : World) (e : Ending) (w' : World) : Prop :=
  ∃ v, e = .returned (.tuple #[v, .int .i64 (lnFault t)]) ∧ (Rp.sl Rp.str).ok w' (· < w'.heap.size) [v] (linesOut t) ∧ Below w.heap.size w w'

set_option maxRecDepth 100000 in
set_option maxHeartbeats 1000000 in
theorem linesTop_any (t : List UInt8) (w : World) (h2 : t.length ≤ maxLen) : Calls Try.prog 33 #[.string (bstr t)] w (LinesTop t w) := by
  have hr := lit_strs w [bstr t] (by simpa [bstr_size] using h2) (by simp)
  have HR := Lib.hid hr
  have hal := (Below.refl w.heap.size w).alloc (Nat.le_refl _) (.cells #[.string (bstr t)] 9)
  have HAL := Lib.hid hal
  unfold maxLen at h2
  clear hr hal
  by_cases ht : t.length ≤ 20000
  · have HF := Lib.hid (textsFault_good (l := [bstr t]) (by simp [bstr_size, ht]))
    have ho : linesOut t = (linesL t).map bstr := if_pos ht
    have hf : lnFault t = 0 := if_pos ht
    have HP : Hid (LinesTop t w = fun e w' => ∃ v, e = .returned (.tuple #[v, .int .i64 0]) ∧ (Rp.sl Rp.str).ok w' (· < w'.heap.size) [v] ((linesL t).map bstr) ∧ Below w.heap.size w w') := by
      unfold LinesTop; rw [ho, hf]; rfl
    clear ho hf
    go_enter Try.func33, Try.ntmps33
    go_wp2_with fail
    refine (checkTexts_any _ _ _ _ HR.out).mono ?_
    rintro e w1 ⟨rfl, rfl⟩
    rw [HF.out]
    go_wp2_with fail
    refine (lines_any t _ ht).mono ?_
    intro e w2 hp
    obtain ⟨v, rfl, hv, hb⟩ := lines_read ht hp
    have HV := Lib.hid hv
    have HB := Lib.hid (ext_trans HAL.out hb)
    clear hp hv hb
    go_wp2
    go_ret2
    rw [HP.out]
    exact ⟨_, rfl, HV.out, HB.out⟩
  · have HF := Lib.hid (textsFault_bad (l := [bstr t]) (k := 0) (by simp) (by simp [bstr_size]; omega))
    have HP : Hid (LinesTop t w (.returned (.tuple #[.slice none 0 0, .int .i64 2])) (w.alloc (.cells #[.string (bstr t)] 9))) :=
      ⟨_, by rw [lnFault, if_neg ht], by rw [linesOut, if_neg ht]; exact Rp.sl_nil _ _ _, HAL.out⟩
    go_enter Try.func33, Try.ntmps33
    go_wp2_with fail
    refine (checkTexts_any _ _ _ _ HR.out).mono ?_
    rintro e w1 ⟨rfl, rfl⟩
    rw [HF.out]
    go_wp2
    go_ret2
    exact HP.out
set_option maxRecDepth 100000 in
set_option maxHeartbeats 1000000 in
theorem refLinesTop_any (t : List UInt8) (w : World) (h2 : t.length ≤ maxLen) : Calls Try.prog 34 #[.string (bstr t)] w (LinesTop t w) := by
  have hsz : (bstr t).size = t.length := rfl
  unfold maxLen at h2
  by_cases ht : t.length ≤ 20000
  · have ho : linesOut t = (linesL t).map bstr := if_pos ht
    have hf : lnFault t = 0 := if_pos ht
    have HP : Hid (LinesTop t w = fun e w' => ∃ v, e = .returned (.tuple #[v, .int .i64 0]) ∧ (Rp.sl Rp.str).ok w' (· < w'.heap.size) [v] ((linesL t).map bstr) ∧ Below w.heap.size w w') := by
      unfold LinesTop; rw [ho, hf]; rfl
    clear ho hf
    go_enter Try.func34, Try.ntmps34
    go_wp2_with fail
    refine (refLines_any t _ ht).mono ?_
    intro e w2 hp
    obtain ⟨v, rfl, hv, hb⟩ := lines_read ht hp
    have HV := Lib.hid hv
    have HB := Lib.hid hb
    clear hp hv hb
    go_wp2
    go_ret2
    rw [HP.out]
    exact ⟨_, rfl, HV.out, HB.out⟩
  · have HP : Hid (LinesTop t w (.returned (.tuple #[.slice none 0 0, .int .i64 2])) w) :=
      ⟨_, by rw [lnFault, if_neg ht], by rw [linesOut, if_neg ht]; exact Rp.sl_nil _ _ _, Below.refl _ _⟩
    go_enter Try.func34, Try.ntmps34
    go_wp2
    go_ret2
    exact HP.out

/-- Both texts are short enough, and have few enough lines. -/
def chgOk (a b : List UInt8) : Bool := decide (a.length ≤ 20000) && decide (b.length ≤ 20000) && decide ((linesL a).length ≤ 400) && decide ((linesL b).length ≤ 400)
def chgFault (a b : List UInt8) : Int := if chgOk a b then 0 else 2
def chgL (a b : List UInt8) : List Ch := if chgOk a b then changesL (linesL a) (linesL b) else []
def bothL (a b t : List UInt8) : List (List UInt8) := if chgOk a b then linesL t else []
theorem chgOk_yes {a b : List UInt8} (h1 : a.length ≤ 20000) (h2 : b.length ≤ 20000) (h3 : (linesL a).length ≤ 400) (h4 : (linesL b).length ≤ 400) : chgOk a b = true := by simp [chgOk, h1, h2, h3, h4]
theorem chgOk_of {a b : List UInt8} (h : chgOk a b = true) : a.length ≤ 20000 ∧ b.length ≤ 20000 ∧ (linesL a).length ≤ 400 ∧ (linesL b).length ≤ 400 := by
  simp only [chgOk, Bool.and_eq_true, decide_eq_true_eq] at h; omega
theorem chgOk_no {a b : List UInt8} (h : ¬ (a.length ≤ 20000 ∧ b.length ≤ 20000 ∧ (linesL a).length ≤ 400 ∧ (linesL b).length ≤ 400)) : chgOk a b = false := by
  cases h' : chgOk a b
  · rfl
  · exact absurd (chgOk_of h') h
def BothPost (a b : List UInt8) (w : World) (e : Ending) (w' : World) : Prop :=
  ∃ v1 v2, e = .returned (.tuple #[v1, v2, .int .i64 (chgFault a b)]) ∧ (Rp.sl Rp.str).ok w' (· < w'.heap.size) [v1] ((bothL a b a).map bstr) ∧ (Rp.sl Rp.str).ok w' (· < w'.heap.size) [v2] ((bothL a b b).map bstr) ∧ Below w.heap.size w w'
theorem both_bad {a b : List UInt8} {w w' : World} (h : chgOk a b = false) (hb : Below w.heap.size w w') : BothPost a b w (.returned (.tuple #[.slice none 0 0, .slice none 0 0, .int .i64 2])) w' := by
  refine ⟨_, _, by rw [chgFault, h]; rfl, ?_, ?_, hb⟩
  · rw [bothL, h]; exact Rp.sl_nil _ _ _
  · rw [bothL, h]; exact Rp.sl_nil _ _ _
theorem both_good {a b : List UInt8} {w w' : World} {v1 v2 : Value} (h : chgOk a b = true) (h1 : (Rp.sl Rp.str).ok w' (· < w'.heap.size) [v1] ((linesL a).map bstr)) (h2 : (Rp.sl Rp.str).ok w' (· < w'.heap.size) [v2] ((linesL b).map bstr)) (hb : Below w.heap.size w w') :
    BothPost a b w (.returned (.tuple #[v1, v2, .int .i64 0])) w' := by
  refine ⟨_, _, by rw [chgFault, h]; rfl, ?_, ?_, hb⟩
  · rw [bothL, h]; exact h1
  · rw [bothL, h]; exact h2

set_option maxRecDepth 100000 in
set_option maxHeartbeats 1000000 in
theorem both_any (a b : List UInt8) (w : World) (ha : a.length ≤ maxLen) (hb : b.length ≤ maxLen) : Calls Try.prog 73 #[.string (bstr a), .string (bstr b)] w (BothPost a b w) := by
  have hr := lit_strs w [bstr a, bstr b] (by simp [bstr_size, ha, hb]) (by simp)
  have HR := Lib.hid hr
  have hal := (Below.refl w.heap.size w).alloc (Nat.le_refl _) (.cells #[.string (bstr a), .string (bstr b)] 9)
  have HAL := Lib.hid hal
  unfold maxLen at ha hb
  clear hr hal
  by_cases ht : a.length ≤ 20000 ∧ b.length ≤ 20000
  · obtain ⟨h1, h2⟩ := ht
    have HF := Lib.hid (textsFault_good (l := [bstr a, bstr b]) (by simp [bstr_size, h1, h2]))
    go_enter Try.func73, Try.ntmps73
    go_wp2_with fail
    refine (checkTexts_any _ _ _ _ HR.out).mono ?_
    rintro e w1 ⟨rfl, rfl⟩
    rw [HF.out]
    go_wp2_with fail
    refine (lines_any a _ h1).mono ?_
    intro e w2 hp
    obtain ⟨v1, rfl, hv1, hb1⟩ := lines_read h1 hp
    have HB1 := Lib.hid (ext_trans HAL.out hb1)
    clear hp hb1
    go_wp2_with fail
    refine (lines_any b _ h2).mono ?_
    intro e w3 hp
    obtain ⟨v2, rfl, hv2, hb2⟩ := lines_read h2 hp
    have HV1 := Lib.hid (Rp.ext _ hv1 hb2)
    have HV2 := Lib.hid hv2
    have HB2 := Lib.hid (ext_trans HB1.out hb2)
    clear hp hb2 hv1 hv2
    obtain ⟨A1, c1, rfl, _⟩ := Rp.sl_open HV1.out
    obtain ⟨A2, c2, rfl, _⟩ := Rp.sl_open HV2.out
    rw [List.length_map] at *
    rw [List.length_map] at *
    by_cases hn : (linesL a).length ≤ 400
    · by_cases hm : (linesL b).length ≤ 400
      · have hfin := Lib.hid (both_good (w := w) (chgOk_yes h1 h2 hn hm) HV1.out HV2.out HB2.out)
        go_wp2
        go_ret3
        exact hfin.out
      · have hfin := Lib.hid (both_bad (w := w) (w' := w3) (chgOk_no (a := a) (b := b) (fun h => hm h.2.2.2)) HB2.out)
        go_wp2
        go_ret3
        exact hfin.out
    · have hfin := Lib.hid (both_bad (w := w) (w' := w3) (chgOk_no (a := a) (b := b) (fun h => hn h.2.2.1)) HB2.out)
      go_wp2
      go_ret3
      exact hfin.out
  · have hbad : textsFault [bstr a, bstr b] = 2 := by
      by_cases h1 : a.length ≤ 20000
      · exact textsFault_bad (k := 1) (by simp) (by simp [bstr_size]; omega)
      · exact textsFault_bad (k := 0) (by simp) (by simp [bstr_size]; omega)
    have HF := Lib.hid hbad
    have hfin := Lib.hid (both_bad (w := w) (w' := w.alloc (.cells #[.string (bstr a), .string (bstr b)] 9)) (chgOk_no (a := a) (b := b) (fun h => ht ⟨h.1, h.2.1⟩)) HAL.out)
    clear hbad ht
    go_enter Try.func73, Try.ntmps73
    go_wp2_with fail
    refine (checkTexts_any _ _ _ _ HR.out).mono ?_
    rintro e w1 ⟨rfl, rfl⟩
    rw [HF.out]
    go_wp2
    go_ret3
    exact hfin.out

def Changes2Post (a b : List UInt8) (w : World) (e : Ending) (w' : World) : Prop :=
  ∃ v, e = .returned (.tuple #[v, .int .i64 (chgFault a b)]) ∧ (Rp.sl chRp).ok w' (· < w'.heap.size) [v] (chgL a b) ∧ Below w.heap.size w w'
theorem changes2_bad {a b : List UInt8} {w w' : World} (h : chgOk a b = false) (hb : Below w.heap.size w w') : Changes2Post a b w (.returned (.tuple #[.slice none 0 0, .int .i64 2])) w' := by
  refine ⟨_, by rw [chgFault, h]; rfl, ?_, hb⟩
  rw [chgL, h]; exact Rp.sl_nil _ _ _
theorem changes2_good {a b : List UInt8} {w w' : World} {v1 : Value} (h : chgOk a b = true) (h1 : (Rp.sl chRp).ok w' (· < w'.heap.size) [v1] (changesL (linesL a) (linesL b))) (hb : Below w.heap.size w w') :
    Changes2Post a b w (.returned (.tuple #[v1, .int .i64 0])) w' := by
  refine ⟨_, by rw [chgFault, h]; rfl, ?_, hb⟩
  rw [chgL, h]; exact h1
set_option maxRecDepth 100000 in
set_option maxHeartbeats 1000000 in
theorem changesTop_any (a b : List UInt8) (w : World) (ha : a.length ≤ maxLen) (hb : b.length ≤ maxLen) : Calls Try.prog 36 #[.string (bstr a), .string (bstr b)] w (Changes2Post a b w) := by
  cases hok : chgOk a b with
  | true =>
    obtain ⟨h1, h2, h3, h4⟩ := chgOk_of hok
    have hf : chgFault a b = 0 := by rw [chgFault, hok]; rfl
    have e1 : bothL a b a = linesL a := by rw [bothL, hok]; rfl
    have e2 : bothL a b b = linesL b := by rw [bothL, hok]; rfl
    have HOK := Lib.hid hok
    have HE1 := Lib.hid e1
    have HE2 := Lib.hid e2
    have HF := Lib.hid hf
    clear hok e1 e2 hf
    go_enter Try.func36, Try.ntmps36
    go_wp2_with fail
    refine (both_any a b w ha hb).mono ?_
    rintro e w1 ⟨v1, v2, rfl, hv1, hv2, hb1⟩
    rw [HE1.out] at hv1
    rw [HE2.out] at hv2
    have HV1 := Lib.hid hv1
    have HV2 := Lib.hid hv2
    have HB1 := Lib.hid hb1
    clear hv1 hv2 hb1
    rw [HF.out]
    go_wp2_with fail
    refine (changes_any _ _ _ _ w1 HV1.out HV2.out h3 h4 (fun s hs => by have := linesL_size a s hs; unfold maxLen; omega) (fun s hs => by have := linesL_size b s hs; unfold maxLen; omega)).mono ?_
    rintro e w2 ⟨v, rfl, hv, hb2⟩
    have hfin := Lib.hid (changes2_good HOK.out hv (ext_trans HB1.out hb2))
    clear hv hb2
    go_wp2
    go_ret2
    exact hfin.out
  | false =>
    have hf : chgFault a b = 2 := by rw [chgFault, hok]; rfl
    have HF := Lib.hid hf
    have HOK := Lib.hid hok
    clear hf hok
    go_enter Try.func36, Try.ntmps36
    go_wp2_with fail
    refine (both_any a b w ha hb).mono ?_
    rintro e w1 ⟨v1, v2, rfl, hv1, hv2, hb1⟩
    have hfin := Lib.hid (changes2_bad HOK.out hb1)
    clear hv1 hv2 hb1
    rw [HF.out]
    go_wp2
    go_ret2
    exact hfin.out
end Go.Proofs.Ytofahmdjhpbecaa
