/-
  The law 'CareProofsLeadToTheRoot' walked: it returns true.
-/
import Derived.Test.YtnnoolemmnailaaDoorTypesC
import Derived.Test.YtnnoolemmnailaaDoorClone
import Derived.Test.YtnnoolemmnailaaDoorRefClimb
import Derived.Test.YtnnoolemmnailaaDoorAwake11
namespace Go.Proofs.YtnnoolemmnailaaDoor
open Go.RowKit
set_option linter.unusedVariables false
set_option linter.unusedSimpArgs false

theorem isDig_digL (t : Str8) : isDig (digL t) = true := by
  unfold isDig
  rw [digL_len, decide_eq_true rfl, Bool.true_and, List.all_eq_true]
  intro c hc
  unfold digL hexL at hc
  obtain ⟨i, _, rfl⟩ := List.mem_map.1 hc
  exact hexB_mem _
theorem leaf_at {w : World} {S : Nat → Prop} {v : Value} {l : List Leaf} (h : (Rp.sl leafRp).ok w S [v] l) {k : Nat} (hk : k < l.length) :
    ∃ ad c, v = .slice (some ad) l.length c ∧ w.cell? (ad.add (k * 2)) = some (.string (bstr l[k].key)) ∧ w.cell? ⟨(ad.add (k * 2)).block, (ad.add (k * 2)).off + 1, none⟩ = some (.string (bstr l[k].digest)) ∧ l[k].key.length ≤ 9223372036854775807 ∧ l[k].digest.length ≤ 9223372036854775807 := by
  obtain ⟨A, c, rfl, _⟩ := Rp.sl_open h
  obtain ⟨ad, us, rfl, _, hb, hu, hcell⟩ := Rp.sl_at h hk
  obtain ⟨rfl, hz1, hz2⟩ := leaf_open hu
  have c0 := hcell 0 _ rfl
  have c1 := hcell 1 _ rfl
  rw [add_fld _ _ _ (by omega)] at c1
  unfold maxLen at hz1 hz2
  exact ⟨ad, c, rfl, c0, c1, by omega, by omega⟩
theorem lead_one {l : List Leaf} (hf : leavesFault l = 0) {m : Nat} (hm : m < l.length) : climbFault l[m] (proofOf (treeOf l) m) = 0 ∧ climbTopL l[m] (proofOf (treeOf l) m) = rootTopL l := by
  have h1 : climbFault l[m] (proofOf (treeOf l) m) = 0 := by rw [climb_fault (leaves_ok hf).1 hm isDig_digL]; exact (leaves_ok hf).2 _ (List.getElem_mem _)
  exact ⟨h1, by rw [climbTopL, if_pos h1, rootTopL, if_pos hf, climb_root hm]⟩
/-- The leaf with another digest. -/
theorem lead_two {l : List Leaf} (hf : leavesFault l = 0) {m : Nat} (hm : m < l.length) (d : Str8) :
    (climbFault ⟨l[m].key, d⟩ (proofOf (treeOf l) m) ≠ 0 ∧ leavesFault (l.set m ⟨l[m].key, d⟩) ≠ 0) ∨
      (climbFault ⟨l[m].key, d⟩ (proofOf (treeOf l) m) = 0 ∧ leavesFault (l.set m ⟨l[m].key, d⟩) = 0 ∧ climbTopL ⟨l[m].key, d⟩ (proofOf (treeOf l) m) = rootTopL (l.set m ⟨l[m].key, d⟩)) := by
  have h1 := climb_fault (leaves_ok hf).1 hm isDig_digL (y := ⟨l[m].key, d⟩)
  by_cases h : leafF ⟨l[m].key, d⟩ = 0
  · have h2 := changed_ok hf hm (y := ⟨l[m].key, d⟩) rfl h
    exact .inr ⟨h1.trans h, h2, by rw [climbTopL, if_pos (h1.trans h), rootTopL, if_pos h2, climb_changed hm]⟩
  · exact .inl ⟨by rw [h1]; exact h, changed_bad hm h⟩
set_option maxRecDepth 100000 in
set_option maxHeartbeats 2000000 in
theorem leadRoot_any (v0 : Value) (l : List Leaf) (v1 : Value) (n : Int) (v2 : Value) (s2 : ByteArray) (w : World) (h0 : (Rp.sl leafRp).ok w (· < w.heap.size) [v0] l) (f0 : (Rp.sl leafRp).fits l)
    (h1 : (Rp.int .i64).ok w (· < w.heap.size) [v1] n) (f1 : (Rp.int .i64).fits n) (h2 : Rp.str.ok w (· < w.heap.size) [v2] s2) (f2 : Rp.str.fits s2) :
    Calls Tryd.prog 3 #[v0, v1, v2] w fun e w' => e = .returned (.bool true) ∧ Below w.heap.size w w' := by
  obtain ⟨e1, hwf⟩ := h1
  injection e1 with e1
  subst e1
  obtain ⟨e2, z2⟩ := h2
  injection e2 with e2
  subst e2
  obtain ⟨d, rfl⟩ : ∃ a, s2 = bstr a := ⟨_, (bstr_eq s2).symm⟩
  rw [bstr_size] at z2
  obtain ⟨A, c, rfl, hlc, hc, _⟩ := Rp.sl_open h0
  unfold maxLen at hc
  have H0 := Lib.hid h0
  have HWF := Lib.hid hwf
  have HZ := Lib.hid z2
  clear f0 f1 f2 h0 hwf z2
  go_enter Tryd.func3, Tryd.ntmps3
  go_wp2_with fail
  refine (root_any _ l w H0.out).mono ?_
  rintro e w1 ⟨rfl, hb1⟩
  have HB1 := Lib.hid hb1
  have H01 := Lib.hid (Rp.ext _ H0.out hb1)
  clear hb1 H0
  by_cases hf : leavesFault l = 0
  · rw [hf]
    by_cases hnil : l = []
    · subst hnil
      go_wp2_with fail
      refine (awake_any _).mono ?_
      rintro e w6 ⟨rfl, hb6⟩
      have HB6 := Lib.hid (ext_trans HB1.out hb6)
      clear hb6
      go_wp2_with fail
      go_ret
      exact ⟨rfl, HB6.out⟩
    have hl0 : 0 < l.length := List.length_pos_iff.2 hnil
    have hl1 : ((l.length : Int) == 0) = false := by rw [beq_eq_false_iff_ne]; omega
    have hl3 := (leaves_ok hf).1
    have HF := Lib.hid hf
    obtain ⟨rt, hrt⟩ : ∃ rt, rootTopL l = rt := ⟨_, rfl⟩
    have HRT := Lib.hid hrt
    rw [hrt]
    clear hf hrt hnil
    go_wp2_with fail
    refine (refBelow_any n l.length w1 hl0 (by omega) HWF.out).mono ?_
    rintro e w1' ⟨rfl, rfl⟩
    have hm := belowK_lt n hl0
    obtain ⟨m, hme⟩ : ∃ m, belowK n l.length = m := ⟨_, rfl⟩
    have HME := Lib.hid hme
    rw [hme] at hm ⊢
    clear hme
    go_wp2_with fail
    refine (proofTop_any _ l (m : Int) w1 H01.out (WalkArith.wf_i64 (by omega))).mono ?_
    rintro e w2 ⟨p, rfl, hp, hb2⟩
    have hpf : proofFault l (m : Int) = 0 := by rw [proofFault, if_neg (by rw [HF.out]; decide), if_pos ⟨by omega, by omega⟩]
    rw [proofTopL, if_pos hpf, Int.toNat_natCast] at hp
    rw [hpf]
    have HP2 := Lib.hid hp
    have HB2 := Lib.hid (ext_trans HB1.out hb2)
    have H02 := Lib.hid (Rp.ext _ H01.out hb2)
    clear hb2 hp H01 HB1 hpf
    go_wp2_with fail
    refine (awake_any _).mono ?_
    rintro e w3 ⟨rfl, hb3⟩
    have HP3 := Lib.hid (Rp.ext _ HP2.out hb3)
    have HB3 := Lib.hid (ext_trans HB2.out hb3)
    have H03 := Lib.hid (Rp.ext _ H02.out hb3)
    clear hb3 HP2 H02 HB2
    obtain ⟨ad, c', e1, q0, q1, zk, zd⟩ := leaf_at H03.out hm
    cases e1
    have HL1 := Lib.hid (lead_one HF.out hm)
    have hls : ∀ s ∈ l, s.key.length ≤ maxLen ∧ s.digest.length ≤ maxLen := fun s hs => by have := (leaves_len HF.out).2 s hs; unfold maxLen; omega
    have HLS := Lib.hid hls
    clear hls
    go_wp2_with fail
    refine (climbTop_any l[m] p _ w3 zk zd HP3.out).mono ?_
    rintro e w4 ⟨rfl, hb4⟩
    rw [HL1.out.1, HL1.out.2.trans HRT.out]
    have HP4 := Lib.hid (Rp.ext _ HP3.out hb4)
    have HB4 := Lib.hid (ext_trans HB3.out hb4)
    have H04 := Lib.hid (Rp.ext _ H03.out hb4)
    clear hb4 HP3 HB3 H03 q0 q1 HL1
    go_wp2_with fail
    refine (withDigest_any _ l (m : Int) d w4 H04.out hl0 hl3 HLS.out (WalkArith.wf_i64 (by omega)) HZ.out).mono ?_
    rintro e w5 ⟨v, rfl, hv, hb5⟩
    have hbk : belowK (m : Int) l.length = m := by unfold belowK; rw [Int.emod_eq_of_lt (by omega) (by omega)]; rfl
    rw [hbk, withD, dif_pos hm] at hv
    rw [hbk]
    have HP5 := Lib.hid (Rp.ext _ HP4.out hb5)
    have HB5 := Lib.hid (ext_trans HB4.out hb5)
    have HV5 := Lib.hid hv
    have hml : m < (l.set m ⟨l[m].key, d⟩).length := by rw [List.length_set]; exact hm
    obtain ⟨ad2, c2, rfl, q0, q1, yk, yd⟩ := leaf_at hv hml
    rw [List.getElem_set_self] at q0 q1 yk yd
    have HL2 := Lib.hid (lead_two HF.out hm d)
    clear hb5 hv HP4 HB4 H04 hbk
    rw [List.length_set] at *
    go_wp2_with fail
    refine (climbTop_any ⟨l[m].key, d⟩ p _ w5 yk yd HP5.out).mono ?_
    rintro e w6 ⟨rfl, hb6⟩
    have HB6 := Lib.hid (ext_trans HB5.out hb6)
    have HV6 := Lib.hid (Rp.ext _ HV5.out hb6)
    clear hb6 HP5 HB5 HV5 q0 q1
    go_wp2_with fail
    refine (root_any _ _ w6 HV6.out).mono ?_
    rintro e w7 ⟨rfl, hb7⟩
    have HB7 := Lib.hid (ext_trans HB6.out hb7)
    clear hb7 HB6 HV6
    rcases HL2.out with ⟨h1, h2⟩ | ⟨h1, h2, h3⟩
    · generalize climbFault ⟨l[m].key, d⟩ (proofOf (treeOf l) m) = f1 at *
      generalize climbTopL ⟨l[m].key, d⟩ (proofOf (treeOf l) m) = s1 at *
      generalize leavesFault (l.set m ⟨l[m].key, d⟩) = f2 at *
      generalize rootTopL (l.set m ⟨l[m].key, d⟩) = s2 at *
      have g1 : (f1 != 0) = true := by rw [bne_iff_ne]; exact h1
      have g2 : (f2 != 0) = true := by rw [bne_iff_ne]; exact h2
      clear HL2
      go_wp2_with fail
      go_ret
      exact ⟨by simp [g1, g2], HB7.out⟩
    · rw [h1, h2, h3]
      generalize rootTopL (l.set m ⟨l[m].key, d⟩) = s2 at *
      clear h1 h2 h3 HL2
      go_wp2_with fail
      go_ret
      exact ⟨rfl, HB7.out⟩
  · have hrt : rootTopL l = [] := by rw [rootTopL, if_neg hf]
    rw [hrt]
    generalize leavesFault l = f at *
    have b0 : (bstr ([] : List UInt8)).toList.isEmpty = true := by rw [bstr_toList]; rfl
    have hf0 : (f == 0) = false := by rw [beq_eq_false_iff_ne]; exact hf
    go_wp2_with fail
    refine (awake_any _).mono ?_
    rintro e w6 ⟨rfl, hb6⟩
    have HB6 := Lib.hid (ext_trans HB1.out hb6)
    clear hb6
    go_wp2_with fail
    go_ret
    exact ⟨rfl, HB6.out⟩
end Go.Proofs.YtnnoolemmnailaaDoor
