/-
  The law 'AlikeChangesLeadThere' walked: it returns true.
-/
import Derived.Test.YtofahmdjhpbecaaDig
import Derived.Test.YtofahmdjhpbecaaLead
import Derived.Test.YtofahmdjhpbecaaApplied
namespace Go.Proofs.Ytofahmdjhpbecaa
open Go.RowKit
set_option linter.unusedVariables false

theorem sumIf_true : ∀ (l : List Ch), (∀ c ∈ l, 1 ≤ c.kind ∧ c.kind ≤ 3) → sumIf (fun _ => true) l = cnt l 1 + cnt l 2 + cnt l 3
  | [], _ => rfl
  | c :: l, h => by
    have hc := h c (by simp)
    rw [sumIf, sumIf_true l fun d hd => h d (by simp [hd]), cnt_cons, cnt_cons, cnt_cons]
    have : c.kind = 1 ∨ c.kind = 2 ∨ c.kind = 3 := by omega
    rcases this with e | e | e <;> simp [e] <;> omega
theorem lead_sum (a b : List (List UInt8)) : sumIf (fun _ => true) (changesL a b) ≤ a.length + b.length := by
  have hof := changesL_of (L := fun _ => True) (a := a) (b := b) (fun _ _ => trivial) (fun _ _ => trivial)
  rw [sumIf_true _ fun c hc => ⟨(hof c hc).1, (hof c hc).2.1⟩]
  have := changesL_cnt a b
  omega
theorem chgOk_comm (a b : List UInt8) : chgOk a b = chgOk b a := by
  cases h : chgOk a b
  · cases h2 : chgOk b a
    · rfl
    · obtain ⟨h3, h4, h5, h6⟩ := chgOk_of h2
      rw [chgOk_yes h4 h3 h6 h5] at h; cases h
  · obtain ⟨h3, h4, h5, h6⟩ := chgOk_of h
    rw [chgOk_yes h4 h3 h6 h5]
set_option maxRecDepth 100000 in
set_option maxHeartbeats 1000000 in
theorem leadLaw_any (v0 : Value) (s0 : ByteArray) (v1 : Value) (s1 : ByteArray) (w : World) (h0 : Rp.str.ok w (· < w.heap.size) [v0] s0) (f0 : Rp.str.fits s0)
    (h1 : Rp.str.ok w (· < w.heap.size) [v1] s1) (f1 : Rp.str.fits s1) :
    Calls Try.prog 13 #[v0, v1] w fun e w' => e = .returned (.bool true) ∧ Below w.heap.size w w' := by
  obtain ⟨e0, z0⟩ := h0
  injection e0 with e0
  subst e0
  obtain ⟨e1, z1⟩ := h1
  injection e1 with e1
  subst e1
  obtain ⟨a, rfl⟩ : ∃ a, s0 = bstr a := ⟨_, (bstr_eq s0).symm⟩
  obtain ⟨b, rfl⟩ : ∃ b, s1 = bstr b := ⟨_, (bstr_eq s1).symm⟩
  rw [bstr_size] at z0 z1
  clear f0 f1
  by_cases hok : chgOk a b = true
  · obtain ⟨l1, l2, l3, l4⟩ := chgOk_of hok
    obtain ⟨m1, m2, m3, m4⟩ := changes_lead hok
    obtain ⟨k1, k2⟩ := changesL_keeps (linesL a) (linesL b)
    obtain ⟨k3, k4⟩ := changesL_keeps (linesL b) (linesL a)
    have hf : chgFault a b = 0 := by rw [chgFault, hok]; rfl
    have hl : chgL a b = changesL (linesL a) (linesL b) := by rw [chgL, hok]; rfl
    have hok2 : chgOk b a = true := by rw [chgOk_comm]; exact hok
    have hf2 : chgFault b a = 0 := by rw [chgFault, hok2]; rfl
    have hl2 : chgL b a = changesL (linesL b) (linesL a) := by rw [chgL, hok2]; rfl
    have hs1 := lead_sum (linesL a) (linesL b)
    have hs2 := lead_sum (linesL b) (linesL a)
    have g1 : sumIf (fun k => k == 1) (changesL (linesL a) (linesL b)) = lcs (linesL a) (linesL b) := by rw [sumIf_one]; exact (changesL_cnt _ _).1
    have g2 : sumIf (fun k => k == 1) (changesL (linesL b) (linesL a)) = lcs (linesL a) (linesL b) := by rw [sumIf_one, lcs_comm]; exact (changesL_cnt _ _).1
    have g3 : sumIf (fun k => k != 3) (changesL (linesL a) (linesL b)) = (linesL a).length := by rw [sumIf_ne, k1]
    have g4 : sumIf (fun k => k != 2) (changesL (linesL a) (linesL b)) = (linesL b).length := by rw [sumIf_ne, k2]
    have g5 : sumIf (fun k => k != 3) (changesL (linesL b) (linesL a)) = (linesL b).length := by rw [sumIf_ne, k3]
    have g6 : sumIf (fun k => k != 2) (changesL (linesL b) (linesL a)) = (linesL a).length := by rw [sumIf_ne, k4]
    have hm2 : (keepL 2 (changesL (linesL a) (linesL b))).flatten.length ≤ 140737488355328 := by rw [k2, linesL_flatten]; omega
    have hm3 : (keepL 3 (changesL (linesL a) (linesL b))).flatten.length ≤ 140737488355328 := by rw [k1, linesL_flatten]; omega
    have hq1 : sumIf (fun _ => true) (changesL (linesL a) (linesL b)) ≤ 1000000 := by omega
    have hq2 : sumIf (fun _ => true) (changesL (linesL b) (linesL a)) ≤ 1000000 := by omega
    have T1 := changesTop_any a b
    have T2 := changesTop_any b a
    unfold Changes2Post at T1 T2
    rw [hf, hl] at T1
    rw [hf2, hl2] at T2
    generalize changesL (linesL a) (linesL b) = l at *
    generalize changesL (linesL b) (linesL a) = r at *
    have M1 := Lib.hid m1
    have M2 := Lib.hid m2
    have M3 := Lib.hid m3
    have M4 := Lib.hid m4
    have G1 := Lib.hid g1
    have G2 := Lib.hid g2
    have G3 := Lib.hid g3
    have G4 := Lib.hid g4
    have G5 := Lib.hid g5
    have G6 := Lib.hid g6
    have HM2 := Lib.hid hm2
    have HM3 := Lib.hid hm3
    have HQ1 := Lib.hid hq1
    have HQ2 := Lib.hid hq2
    have HT1 := Lib.hid (T1 w z0 z1)
    have HT2 := Lib.hid (fun w => T2 w z1 z0)
    clear m1 m2 m3 m4 g1 g2 g3 g4 g5 g6 hm2 hm3 hq1 hq2 T1 T2 hf hl hf2 hl2 hok hok2 k1 k2 k3 k4 hs1 hs2
    go_enter Try.func13, Try.ntmps13
    go_wp2_with fail
    refine HT1.out.mono ?_
    rintro e w1 ⟨p, rfl, hp, hb1⟩
    have HP := Lib.hid hp
    have HB1 := Lib.hid hb1
    clear hp hb1
    go_wp2_with fail
    refine (applied_any a p l w1 z0 HP.out HM2.out).mono ?_
    rintro e w2 ⟨rfl, hb2⟩
    rw [M1.out, M2.out]
    have HP2 := Lib.hid (Rp.ext _ HP.out hb2)
    have HB2 := Lib.hid (ext_trans HB1.out hb2)
    clear hb2
    go_wp2_with fail
    refine (undone_any b p l w2 z1 HP2.out HM3.out).mono ?_
    rintro e w3 ⟨rfl, hb3⟩
    rw [M3.out, M4.out]
    have HP3 := Lib.hid (Rp.ext _ HP2.out hb3)
    have HB3 := Lib.hid (ext_trans HB2.out hb3)
    clear hb3
    go_wp2_with fail
    refine (awake_any _).mono ?_
    rintro e w4 ⟨rfl, hb4⟩
    have HP4 := Lib.hid (Rp.ext _ HP3.out hb4)
    have HB4 := Lib.hid (ext_trans HB3.out hb4)
    clear hb4
    go_wp2_with fail
    refine (HT2.out w4).mono ?_
    rintro e w5 ⟨q, rfl, hq, hb5⟩
    have HP5 := Lib.hid (Rp.ext _ HP4.out hb5)
    have HQ := Lib.hid hq
    have HB5 := Lib.hid (ext_trans HB4.out hb5)
    clear hb5 hq
    go_wp2_with fail
    refine (many_any p l w5 HP5.out HQ1.out).mono ?_
    rintro e w6 ⟨rfl, hb6⟩
    rw [G3.out, G4.out]
    have HP6 := Lib.hid (Rp.ext _ HP5.out hb6)
    have HQ6 := Lib.hid (Rp.ext _ HQ.out hb6)
    have HB6 := Lib.hid (ext_trans HB5.out hb6)
    clear hb6
    go_wp2_with fail
    refine (many_any q r w6 HQ6.out HQ2.out).mono ?_
    rintro e w7 ⟨rfl, hb7⟩
    rw [G5.out, G6.out]
    have HP7 := Lib.hid (Rp.ext _ HP6.out hb7)
    have HQ7 := Lib.hid (Rp.ext _ HQ6.out hb7)
    have HB7 := Lib.hid (ext_trans HB6.out hb7)
    clear hb7
    go_wp2_with fail
    refine (stays_any p l w7 HP7.out HQ1.out).mono ?_
    rintro e w8 ⟨rfl, hb8⟩
    rw [G1.out]
    have HQ8 := Lib.hid (Rp.ext _ HQ7.out hb8)
    have HB8 := Lib.hid (ext_trans HB7.out hb8)
    clear hb8
    go_wp2_with fail
    refine (stays_any q r w8 HQ8.out HQ2.out).mono ?_
    rintro e w9 ⟨rfl, hb9⟩
    rw [G2.out]
    have HB9 := Lib.hid (ext_trans HB8.out hb9)
    clear hb9
    go_wp2_with fail
    go_ret
    exact ⟨rfl, HB9.out⟩
  · have hok' := Bool.eq_false_iff.2 hok
    have hf : chgFault a b = 2 := by rw [chgFault, hok']; rfl
    have hl : chgL a b = [] := by rw [chgL, hok']; rfl
    have T1 := changesTop_any a b
    unfold Changes2Post at T1
    rw [hf, hl] at T1
    have HT1 := Lib.hid (T1 w z0 z1)
    clear T1 hok hok' hf hl
    go_enter Try.func13, Try.ntmps13
    go_wp2_with fail
    refine HT1.out.mono ?_
    rintro e w1 ⟨p, rfl, hp, hb1⟩
    obtain ⟨A, c, rfl, _⟩ := Rp.sl_open hp
    have HB1 := Lib.hid hb1
    clear hp hb1
    go_wp2_with fail
    refine (awake_any _).mono ?_
    rintro e w4 ⟨rfl, hb4⟩
    have HB4 := Lib.hid (ext_trans HB1.out hb4)
    clear hb4
    go_wp2_with fail
    go_ret
    exact ⟨rfl, HB4.out⟩
end Go.Proofs.Ytofahmdjhpbecaa
