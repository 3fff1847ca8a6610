/-
  'changes' of package alike.
-/
import Derived.Test.YtofahmdjhpbecaaProg
import Derived.Test.YtofahmdjhpbecaaChgPlain
import Derived.Test.YtofahmdjhpbecaaStay
namespace Go.Proofs.Ytofahmdjhpbecaa
open Go.RowKit
set_option linter.unusedVariables false
set_option linter.unusedSimpArgs false

def ChangesPost (a b : List (List UInt8)) (w : World) (e : Ending) (w' : World) : Prop :=
  ∃ v, e = .returned v ∧ (Rp.sl chRp).ok w' (· < w'.heap.size) [v] (changesL a b) ∧ Below w.heap.size w w'
/-- What holds at the head of the loop. -/
structure ChgRel (a b : List (List UInt8)) (n m : Nat) (w1 : World) (out i k : Value) (wr : World) : Prop where
  get : ∃ (p q : Nat) (l : List Ch), p ≤ n ∧ q ≤ m ∧ i = .int .i64 p ∧ k = .int .i64 q ∧ Hid (Nest chHd chIn 2 109 9 w1.heap.size wr out l) ∧ Hid (chGo (a.drop p) (b.drop q) l = changesL a b) ∧ Hid (ChOf (fun s => s.length ≤ maxLen) l) ∧ chSum l ≤ p + q ∧ l.length ≤ p + q ∧ Hid (Below w1.heap.size w1 wr)

set_option maxRecDepth 100000 in
set_option maxHeartbeats 4000000 in
theorem changes_any (v1 v2 : Value) (a b : List (List UInt8)) (w : World) (h1 : (Rp.sl Rp.str).ok w (· < w.heap.size) [v1] (a.map bstr)) (h2 : (Rp.sl Rp.str).ok w (· < w.heap.size) [v2] (b.map bstr)) (l1 : a.length ≤ 400) (l2 : b.length ≤ 400)
    (hla : ∀ s ∈ a, s.length ≤ maxLen) (hlb : ∀ s ∈ b, s.length ≤ maxLen) :
    Calls Try.prog 74 #[v1, v2] w (ChangesPost a b w) := by
  obtain ⟨A1, c1, rfl, _, hc1, _⟩ := Rp.sl_open h1
  obtain ⟨A2, c2, rfl, _, hc2, _⟩ := Rp.sl_open h2
  have H1 := Lib.hid h1
  have H2 := Lib.hid h2
  have HLA := Lib.hid hla
  have HLB := Lib.hid hlb
  clear h1 h2 hla hlb
  rw [List.length_map, List.length_map] at *
  obtain ⟨n, hn⟩ : ∃ n, a.length = n := ⟨_, rfl⟩
  obtain ⟨m, hm⟩ : ∃ m, b.length = m := ⟨_, rfl⟩
  rw [hn] at l1 H1 ⊢
  rw [hm] at l2 H2 ⊢
  have HN := Lib.hid hn
  have HM := Lib.hid hm
  clear hn hm
  go_enter Try.func74, Try.ntmps74
  go_wp2_with fail
  refine (stay_any _ _ a b w H1.out H2.out (by rw [HN.out]; exact l1) (by rw [HM.out]; exact l2)).mono ?_
  rintro e w1 ⟨vt, rfl, ht, hb1⟩
  have HT := Lib.hid ht
  have B1 := Lib.hid hb1
  obtain ⟨AT, cT, rfl, _, hcT, _⟩ := Rp.sl_open ht
  clear ht hb1
  rw [show (lcsTab a b).length = n + 1 by simp [lcsTab, HN.out]] at HT ⊢
  go_wp2
  go_loopw [6, 7, 8] (fun vo vi vk wr => ChgRel a b n m w1 vo vi vk wr) (fun _ vi vk _ => (n - (intOf vi).toNat) + (m - (intOf vk).toNat))
  case atStart => exact ⟨0, 0, [], by omega, by omega, rfl, rfl, Nest.nil _, by simp [changesL, Hid], fun c hc => by simp at hc, by simp [chSum], by simp, Below.refl _ _⟩
  case round =>
    obtain ⟨i, k, l, hi, hk, rfl, rfl, HN0, HC, HL, hsum, hll, HW⟩ := hrel
    have hwsz := HW.out.size
    have hm1 : ∀ c ∈ l, c.ls.length ≤ 2000 := fun c hc => by have := chSum_mem hc; omega
    have HM1 := Lib.hid hm1
    clear hm1
    by_cases hik : i < n ∨ k < m
    · by_cases h2 : i < n ∧ k < m
      · obtain ⟨hin, hkm⟩ := h2
        have hia : i < a.length := by rw [HN.out]; exact hin
        have hkb : k < b.length := by rw [HM.out]; exact hkm
        obtain ⟨ad1, u1, rfl, _, hu1, hc1'⟩ := Rp.sl_at1 rfl (Rp.keep _ H1.out (same_below (B1.out.trans (HW.out.mono B1.out.size))) (fun _ h => h)) (k := i) (by rw [List.length_map]; exact hia)
        obtain ⟨ad2, u2, rfl, _, hu2, hc2'⟩ := Rp.sl_at1 rfl (Rp.keep _ H2.out (same_below (B1.out.trans (HW.out.mono B1.out.size))) (fun _ h => h)) (k := k) (by rw [List.length_map]; exact hkb)
        obtain ⟨hu1, _⟩ := hu1
        obtain ⟨hu2, _⟩ := hu2
        injection hu1 with hu1
        injection hu2 with hu2
        rw [List.getElem_map] at hu1 hu2
        subst hu1 hu2
        obtain ⟨adm, adi, ci, rfl, hn', hti, hci1, hci2, htk⟩ := tab_row (Rp.below _ HT.out HW.out) (i := i) (by omega)
        obtain ⟨adm', adj, cj, e9, -, htj, hcj1, hcj2, htl⟩ := tab_row (Rp.below _ HT.out HW.out) (i := i + 1) (by omega)
        injection e9 with e9
        subst e9
        have v1 := htk k (by omega)
        have v2 := htl k (by omega)
        have v3 := htl (k + 1) (by omega)
        rw [HM.out] at hti htj
        rw [add_succ] at htj v3
        have hla := HLA.out _ (List.getElem_mem hia)
        have hlb := HLB.out _ (List.getElem_mem hkb)
        have g1 := (lcsAt_le a b i k).1
        have g2 := (lcsAt_le a b (i + 1) k).1
        have g3 := (lcsAt_le a b (i + 1) (k + 1)).1
        rw [HN.out] at g1 g2 g3
        clear hn' htk htl hci1 hcj1 hci2 hcj2
        have keep := fun (e : a[i]'hia = b[k]'hkb) hd => chGo_keep (out := l) hia hkb e hd
        have gone := fun (e : ¬ (a[i]'hia = b[k]'hkb ∧ lcsAt a b (i + 1) (k + 1) + 1 = lcsAt a b i k)) hd => chGo_gone (out := l) hia hkb e hd
        have new := fun (e : ¬ (a[i]'hia = b[k]'hkb ∧ lcsAt a b (i + 1) (k + 1) + 1 = lcsAt a b i k)) hd => chGo_new (out := l) hia hkb e hd
        generalize lcsAt a b i k = x1 at *
        generalize lcsAt a b (i + 1) k = x2 at *
        generalize lcsAt a b (i + 1) (k + 1) = x3 at *
        have i1 : (0 : Int) ≤ i + 1 ∧ (i : Int) + 1 < (n : Int) + 1 := by omega
        have i2 : (0 : Int) ≤ k + 1 ∧ (k : Int) + 1 < (m : Int) + 1 := by omega
        have i3 : (i : Int) < (n : Int) + 1 := by omega
        have i4 : (k : Int) < (m : Int) + 1 := by omega
        obtain ⟨i1, i1'⟩ := i1
        obtain ⟨i2, i2'⟩ := i2
        have t1 : ((i : Int) + 1).toNat = i + 1 := by omega
        have t2 : ((k : Int) + 1).toNat = k + 1 := by omega
        have s1 : IntKind.i64.wrap ((i : Int) + 1) = (i : Int) + 1 := IntWalk.i64_in _ (by omega)
        have s2 : IntKind.i64.wrap ((k : Int) + 1) = (k : Int) + 1 := IntWalk.i64_in _ (by omega)
        have s3 : IntKind.i64.wrap ((x3 : Int) + 1) = (x3 : Int) + 1 := IntWalk.i64_in _ (by omega)
        have KP := Lib.hid keep
        have GN := Lib.hid gone
        have NW := Lib.hid new
        clear keep gone new
        by_cases hab : a[i]'hia = b[k]'hkb
        · have hteq : ((bstr (a[i]'hia)).toList == (bstr (b[k]'hkb)).toList) = true := str_beq (by rw [hab])
          have HAB := Lib.hid hab
          clear hab
          by_cases hd : x3 + 1 = x1
          · have HS := Lib.hid (KP.out HAB.out hd)
            have hd' : ((x3 : Int) + 1 == (x1 : Int)) = true := by rw [beq_iff_eq]; omega
            clear hd
            go_wp2
            go_quiet (fail)
            go_wp2_with fail
            refine (add_any w1.heap.size _ l 1 (a[i]) _ (HN0.out.drewN _) hwsz (by omega) HM1.out).mono ?_
            rintro e w3 ⟨v9, rfl, hn3, hb3⟩
            have HN3 := Lib.hid hn3
            have HB3 := Lib.hid hb3
            clear hn3 hb3
            try clear s1
            try clear s2
            try clear s3
            try clear t1
            try clear t2
            go_wp2
            go_roundw
            case rel =>
              refine ⟨i + 1, k + 1, addL l 1 (a[i]), by omega, by omega, by first | rfl | go_num, by first | rfl | go_num, HN3, HS.out.symm.trans HC.out, ChOf.add HL.out (by decide) (by decide) hla, ?_, ?_, HB3.out _ (below_drewN HW.out _)⟩
              · rw [chSum_add]; omega
              · have := addL_len l 1 (a[i]); omega
            case measure => simp only [intOf]; omega
          · have hn1 : Hid (¬ (a[i]'hia = b[k]'hkb ∧ x3 + 1 = x1)) := fun h => hd h.2
            have hd' : ((x3 : Int) + 1 == (x1 : Int)) = false := by rw [beq_eq_false_iff_ne]; omega
            clear hd
            by_cases he : x2 = x1
            · have HS := Lib.hid (GN.out hn1.out he)
              have he' : ((x2 : Int) == (x1 : Int)) = true := by rw [beq_iff_eq]; omega
              clear he
              go_wp2
              go_quiet (fail)
              go_wp2
              go_quiet (fail)
              go_wp2_with fail
              refine (add_any w1.heap.size _ l 2 (a[i]) _ (HN0.out.drewN _) hwsz (by omega) HM1.out).mono ?_
              rintro e w3 ⟨v9, rfl, hn3, hb3⟩
              have HN3 := Lib.hid hn3
              have HB3 := Lib.hid hb3
              clear hn3 hb3
              try clear s1
              try clear s2
              try clear s3
              try clear t1
              try clear t2
              go_wp2
              go_roundw
              case rel =>
                refine ⟨i + 1, k, addL l 2 (a[i]), by omega, by omega, by first | rfl | go_num, by first | rfl | go_num, HN3, HS.out.symm.trans HC.out, ChOf.add HL.out (by decide) (by decide) hla, ?_, ?_, HB3.out _ (below_drewN HW.out _)⟩
                · rw [chSum_add]; omega
                · have := addL_len l 2 (a[i]); omega
              case measure => simp only [intOf]; omega
            · have HS := Lib.hid (NW.out hn1.out he)
              have he' : ((x2 : Int) == (x1 : Int)) = false := by rw [beq_eq_false_iff_ne]; omega
              clear he
              go_wp2
              go_quiet (fail)
              go_wp2
              go_quiet (fail)
              go_wp2_with fail
              refine (add_any w1.heap.size _ l 3 (b[k]) _ (HN0.out.drewN _) hwsz (by omega) HM1.out).mono ?_
              rintro e w3 ⟨v9, rfl, hn3, hb3⟩
              have HN3 := Lib.hid hn3
              have HB3 := Lib.hid hb3
              clear hn3 hb3
              try clear s1
              try clear s2
              try clear s3
              try clear t1
              try clear t2
              go_wp2
              go_roundw
              case rel =>
                refine ⟨i, k + 1, addL l 3 (b[k]), by omega, by omega, by first | rfl | go_num, by first | rfl | go_num, HN3, HS.out.symm.trans HC.out, ChOf.add HL.out (by decide) (by decide) hlb, ?_, ?_, HB3.out _ (below_drewN HW.out _)⟩
                · rw [chSum_add]; omega
                · have := addL_len l 3 (b[k]); omega
              case measure => simp only [intOf]; omega
        · have hteq : ((bstr (a[i]'hia)).toList == (bstr (b[k]'hkb)).toList) = false := str_bne (fun e => hab (bstr_inj e))
          have hn1 : Hid (¬ (a[i]'hia = b[k]'hkb ∧ x3 + 1 = x1)) := fun h => hab h.1
          clear hab
          by_cases he : x2 = x1
          · have HS := Lib.hid (GN.out hn1.out he)
            have he' : ((x2 : Int) == (x1 : Int)) = true := by rw [beq_iff_eq]; omega
            clear he
            go_wp2
            go_quiet (fail)
            go_wp2
            go_quiet (fail)
            go_wp2_with fail
            refine (add_any w1.heap.size _ l 2 (a[i]) _ (HN0.out.drewN _) hwsz (by omega) HM1.out).mono ?_
            rintro e w3 ⟨v9, rfl, hn3, hb3⟩
            have HN3 := Lib.hid hn3
            have HB3 := Lib.hid hb3
            clear hn3 hb3
            try clear s1
            try clear s2
            try clear s3
            try clear t1
            try clear t2
            go_wp2
            go_roundw
            case rel =>
              refine ⟨i + 1, k, addL l 2 (a[i]), by omega, by omega, by first | rfl | go_num, by first | rfl | go_num, HN3, HS.out.symm.trans HC.out, ChOf.add HL.out (by decide) (by decide) hla, ?_, ?_, HB3.out _ (below_drewN HW.out _)⟩
              · rw [chSum_add]; omega
              · have := addL_len l 2 (a[i]); omega
            case measure => simp only [intOf]; omega
          · have HS := Lib.hid (NW.out hn1.out he)
            have he' : ((x2 : Int) == (x1 : Int)) = false := by rw [beq_eq_false_iff_ne]; omega
            clear he
            go_wp2
            go_quiet (fail)
            go_wp2
            go_quiet (fail)
            go_wp2_with fail
            refine (add_any w1.heap.size _ l 3 (b[k]) _ (HN0.out.drewN _) hwsz (by omega) HM1.out).mono ?_
            rintro e w3 ⟨v9, rfl, hn3, hb3⟩
            have HN3 := Lib.hid hn3
            have HB3 := Lib.hid hb3
            clear hn3 hb3
            try clear s1
            try clear s2
            try clear s3
            try clear t1
            try clear t2
            go_wp2
            go_roundw
            case rel =>
              refine ⟨i, k + 1, addL l 3 (b[k]), by omega, by omega, by first | rfl | go_num, by first | rfl | go_num, HN3, HS.out.symm.trans HC.out, ChOf.add HL.out (by decide) (by decide) hlb, ?_, ?_, HB3.out _ (below_drewN HW.out _)⟩
              · rw [chSum_add]; omega
              · have := addL_len l 3 (b[k]); omega
            case measure => simp only [intOf]; omega
      · by_cases hin : i < n
        · obtain rfl : k = m := by omega
          have hia : i < a.length := by rw [HN.out]; exact hin
          obtain ⟨ad1, u1, rfl, _, hu1, hc1'⟩ := Rp.sl_at1 rfl (Rp.keep _ H1.out (same_below (B1.out.trans (HW.out.mono B1.out.size))) (fun _ h => h)) (k := i) (by rw [List.length_map]; exact hia)
          obtain ⟨hu1, _⟩ := hu1
          injection hu1 with hu1
          rw [List.getElem_map] at hu1
          subst hu1
          obtain ⟨adm, adi, ci, rfl, hn', hti, hci1, hci2, htk⟩ := tab_row (Rp.below _ HT.out HW.out) (i := i) (by omega)
          obtain ⟨adm', adj, cj, e9, -, htj, hcj1, hcj2, htl⟩ := tab_row (Rp.below _ HT.out HW.out) (i := i + 1) (by omega)
          injection e9 with e9
          subst e9
          have v1 := htk k (by rw [HM.out]; exact Nat.le_refl _)
          have v2 := htl k (by rw [HM.out]; exact Nat.le_refl _)
          rw [lcsAt_end _ _ _ _ (by rw [HM.out]; exact Nat.le_refl _)] at v1 v2
          rw [HM.out] at hti htj
          rw [add_succ] at htj
          have hla := HLA.out _ (List.getElem_mem hia)
          have HS := Lib.hid (chGo_left (out := l) (b := b) (k := k) hia (by rw [HM.out]; exact Nat.le_refl _))
          clear hn' htk htl hci1 hcj1 hci2 hcj2 h2 hik
          have i1 : (0 : Int) ≤ i + 1 := by omega
          have i1' : (i : Int) + 1 < (n : Int) + 1 := by omega
          have i3 : (i : Int) < (n : Int) + 1 := by omega
          have i4 : (k : Int) < (k : Int) + 1 := by omega
          have t1 : ((i : Int) + 1).toNat = i + 1 := by omega
          have s1 : IntKind.i64.wrap ((i : Int) + 1) = (i : Int) + 1 := IntWalk.i64_in _ (by omega)
          go_wp2
          go_quiet (fail)
          go_wp2
          go_quiet (fail)
          go_wp2_with fail
          refine (add_any w1.heap.size _ l 2 (a[i]) _ (HN0.out.drewN _) hwsz (by omega) HM1.out).mono ?_
          rintro e w3 ⟨v9, rfl, hn3, hb3⟩
          have HN3 := Lib.hid hn3
          have HB3 := Lib.hid hb3
          clear hn3 hb3
          try clear s1
          try clear s2
          try clear s3
          try clear t1
          try clear t2
          go_wp2
          go_roundw
          case rel =>
            refine ⟨i + 1, k, addL l 2 (a[i]), by omega, by omega, by first | rfl | go_num, by first | rfl | go_num, HN3, HS.out.symm.trans HC.out, ChOf.add HL.out (by decide) (by decide) hla, ?_, ?_, HB3.out _ (below_drewN HW.out _)⟩
            · rw [chSum_add]; omega
            · have := addL_len l 2 (a[i]); omega
          case measure => simp only [intOf]; omega
        · obtain rfl : i = n := by omega
          have hkm : k < m := by omega
          have hkb : k < b.length := by rw [HM.out]; exact hkm
          obtain ⟨ad2, u2, rfl, _, hu2, hc2'⟩ := Rp.sl_at1 rfl (Rp.keep _ H2.out (same_below (B1.out.trans (HW.out.mono B1.out.size))) (fun _ h => h)) (k := k) (by rw [List.length_map]; exact hkb)
          obtain ⟨hu2, _⟩ := hu2
          injection hu2 with hu2
          rw [List.getElem_map] at hu2
          subst hu2
          have hlb := HLB.out _ (List.getElem_mem hkb)
          have HS := Lib.hid (chGo_right (out := l) (a := a) (i := i) (by rw [HN.out]; exact Nat.le_refl _) hkb)
          clear h2 hik hin
          go_wp2
          go_quiet (fail)
          go_wp2
          go_quiet (fail)
          go_wp2_with fail
          refine (add_any w1.heap.size _ l 3 (b[k]) _ (HN0.out.drewN _) hwsz (by omega) HM1.out).mono ?_
          rintro e w3 ⟨v9, rfl, hn3, hb3⟩
          have HN3 := Lib.hid hn3
          have HB3 := Lib.hid hb3
          clear hn3 hb3
          try clear s1
          try clear s2
          try clear s3
          try clear t1
          try clear t2
          go_wp2
          go_roundw
          case rel =>
            refine ⟨i, k + 1, addL l 3 (b[k]), by omega, by omega, by first | rfl | go_num, by first | rfl | go_num, HN3, HS.out.symm.trans HC.out, ChOf.add HL.out (by decide) (by decide) hlb, ?_, ?_, HB3.out _ (below_drewN HW.out _)⟩
            · rw [chSum_add]; omega
            · have := addL_len l 3 (b[k]); omega
          case measure => simp only [intOf]; omega
    · obtain rfl : i = n := by omega
      obtain rfl : k = m := by omega
      have hfin := HC.out
      rw [chGo_end (by rw [HN.out]; exact Nat.le_refl _) (by rw [HM.out]; exact Nat.le_refl _)] at hfin
      have HR : Hid ((Rp.sl chRp).ok wr (· < wr.heap.size) [u6] (changesL a b)) := by rw [← hfin]; exact nest_ch HN0.out HL.out
      have HBF : Hid (Below w.heap.size w wr) := B1.out.trans (HW.out.mono B1.out.size)
      clear hfin hik
      go_wp2
      go_ret
      exact ⟨_, rfl, HR.out, HBF.out⟩
end Go.Proofs.Ytofahmdjhpbecaa
