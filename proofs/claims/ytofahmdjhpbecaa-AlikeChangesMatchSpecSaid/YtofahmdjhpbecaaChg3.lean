/-
  'Changes' of the reference.
-/
import Derived.Test.YtofahmdjhpbecaaProg
import Derived.Test.YtofahmdjhpbecaaChg2
namespace Go.Proofs.Ytofahmdjhpbecaa
open Go.RowKit
set_option linter.unusedVariables false
set_option linter.unusedSimpArgs false

set_option maxRecDepth 100000 in
set_option maxHeartbeats 4000000 in
theorem refChanges_good (sa sb : List UInt8) (w0 : World) (hok : chgOk sa sb = true) : Calls Try.prog 37 #[.string (bstr sa), .string (bstr sb)] w0 (Changes2Post sa sb w0) := by
  obtain ⟨g1, g2, l1, l2⟩ := chgOk_of hok
  have z1 : (bstr sa).size = sa.length := rfl
  have z2 : (bstr sb).size = sb.length := rfl
  have HOK := Lib.hid hok
  clear hok
  go_enter Try.func37, Try.ntmps37
  go_wp2_with fail
  refine (refLines_any sa _ g1).mono ?_
  intro e wx hp
  obtain ⟨v1, rfl, hv1, hb1⟩ := lines_read g1 hp
  clear hp
  have HB1 := Lib.hid hb1
  clear hb1
  go_wp2_with fail
  refine (refLines_any sb _ g2).mono ?_
  intro e w hp
  obtain ⟨v2, rfl, h2, hb2⟩ := lines_read g2 hp
  have h1 := Rp.ext _ hv1 hb2
  have HB0 := Lib.hid (ext_trans HB1.out hb2)
  clear hp hb2 hv1
  have HLA : Hid (∀ s ∈ linesL sa, s.length ≤ maxLen) := fun s hs => by have := linesL_size sa s hs; unfold maxLen; omega
  have HLB : Hid (∀ s ∈ linesL sb, s.length ≤ maxLen) := fun s hs => by have := linesL_size sb s hs; unfold maxLen; omega
  have HGOOD : Hid (∀ (w' : World) (v1 : Value), (Rp.sl chRp).ok w' (· < w'.heap.size) [v1] (changesL (linesL sa) (linesL sb)) → Below w0.heap.size w0 w' → Changes2Post sa sb w0 (.returned (.tuple #[v1, .int .i64 0])) w') := fun w' v1 a b => changes2_good HOK.out a b
  clear HOK
  generalize linesL sa = a at *
  generalize linesL sb = b at *
  obtain ⟨A1, c1, rfl, _, hc1, _⟩ := Rp.sl_open h1
  obtain ⟨A2, c2, rfl, _, hc2, _⟩ := Rp.sl_open h2
  have H1 := Lib.hid h1
  have H2 := Lib.hid h2
  clear h1 h2
  rw [List.length_map] at *
  rw [List.length_map] at *
  obtain ⟨n, hn⟩ : ∃ n, a.length = n := ⟨_, rfl⟩
  obtain ⟨m, hm⟩ : ∃ m, b.length = m := ⟨_, rfl⟩
  rw [hn] at l1 H1 ⊢
  rw [hm] at l2 H2 ⊢
  have HN := Lib.hid hn
  have HM := Lib.hid hm
  clear hn hm
  go_wp2_with fail
  refine (refStay_any _ _ a b w H1.out H2.out (by rw [HN.out]; exact l1) (by rw [HM.out]; exact l2)).mono ?_
  rintro e w1 ⟨vt, rfl, ht, hb1⟩
  have HT := Lib.hid ht
  have B1 := Lib.hid hb1
  obtain ⟨AT, cT, rfl, _, hcT, _⟩ := Rp.sl_open ht
  clear ht hb1
  rw [show (lcsTab a b).length = n + 1 by simp [lcsTab, HN.out]] at HT ⊢
  go_wp2
  go_loopw [9, 10, 11] (fun vo vi vk wr => ChgRel a b n m w1 vo vi vk wr) (fun _ vi vk _ => (n - (intOf vi).toNat) + (m - (intOf vk).toNat))
  case atStart => exact ⟨0, 0, [], by omega, by omega, rfl, rfl, Nest.nil _, by simp [changesL, Hid], fun c hc => by simp at hc, by simp [chSum], by simp, Below.refl _ _⟩
  case round =>
    obtain ⟨i, k, l, hi, hk, rfl, rfl, HN0, HC, HL, hsum, hll, HW⟩ := hrel
    have hwsz := HW.out.size
    have hm1 : ∀ c ∈ l, c.ls.length ≤ 2000 := fun c hc => by have := chSum_mem hc; omega
    have HM1 := Lib.hid hm1
    clear hm1
    by_cases hik : i < n ∨ k < m
    · by_cases h2 : i < n ∧ k < m
      · obtain ⟨hin, hkm⟩ := h2
        have hia : i < a.length := by rw [HN.out]; exact hin
        have hkb : k < b.length := by rw [HM.out]; exact hkm
        obtain ⟨ad1, u1, rfl, _, hu1, hc1'⟩ := Rp.sl_at1 rfl (Rp.keep _ H1.out (same_below (B1.out.trans (HW.out.mono B1.out.size))) (fun _ h => h)) (k := i) (by rw [List.length_map]; exact hia)
        obtain ⟨ad2, u2, rfl, _, hu2, hc2'⟩ := Rp.sl_at1 rfl (Rp.keep _ H2.out (same_below (B1.out.trans (HW.out.mono B1.out.size))) (fun _ h => h)) (k := k) (by rw [List.length_map]; exact hkb)
        obtain ⟨hu1, _⟩ := hu1
        obtain ⟨hu2, _⟩ := hu2
        injection hu1 with hu1
        injection hu2 with hu2
        rw [List.getElem_map] at hu1 hu2
        subst hu1 hu2
        obtain ⟨adm, adi, ci, rfl, hn', hti, hci1, hci2, htk⟩ := tab_row (Rp.below _ HT.out HW.out) (i := i) (by omega)
        obtain ⟨adm', adj, cj, e9, -, htj, hcj1, hcj2, htl⟩ := tab_row (Rp.below _ HT.out HW.out) (i := i + 1) (by omega)
        injection e9 with e9
        subst e9
        have v1 := htk k (by omega)
        have v2 := htl k (by omega)
        have v3 := htl (k + 1) (by omega)
        rw [HM.out] at hti htj
        rw [add_succ] at htj v3
        have hla := HLA.out _ (List.getElem_mem hia)
        have hlb := HLB.out _ (List.getElem_mem hkb)
        have g1 := (lcsAt_le a b i k).1
        have g2 := (lcsAt_le a b (i + 1) k).1
        have g3 := (lcsAt_le a b (i + 1) (k + 1)).1
        rw [HN.out] at g1 g2 g3
        clear hn' htk htl hci1 hcj1 hci2 hcj2
        have keep := fun (e : a[i]'hia = b[k]'hkb) hd => chGo_keep (out := l) hia hkb e hd
        have gone := fun (e : ¬ (a[i]'hia = b[k]'hkb ∧ lcsAt a b (i + 1) (k + 1) + 1 = lcsAt a b i k)) hd => chGo_gone (out := l) hia hkb e hd
        have new := fun (e : ¬ (a[i]'hia = b[k]'hkb ∧ lcsAt a b (i + 1) (k + 1) + 1 = lcsAt a b i k)) hd => chGo_new (out := l) hia hkb e hd
        generalize lcsAt a b i k = x1 at *
        generalize lcsAt a b (i + 1) k = x2 at *
        generalize lcsAt a b (i + 1) (k + 1) = x3 at *
        have i1 : (0 : Int) ≤ i + 1 ∧ (i : Int) + 1 < (n : Int) + 1 := by omega
        have i2 : (0 : Int) ≤ k + 1 ∧ (k : Int) + 1 < (m : Int) + 1 := by omega
        have i3 : (i : Int) < (n : Int) + 1 := by omega
        have i4 : (k : Int) < (m : Int) + 1 := by omega
        obtain ⟨i1, i1'⟩ := i1
        obtain ⟨i2, i2'⟩ := i2
        have t1 : ((i : Int) + 1).toNat = i + 1 := by omega
        have t2 : ((k : Int) + 1).toNat = k + 1 := by omega
        have s1 : IntKind.i64.wrap ((i : Int) + 1) = (i : Int) + 1 := IntWalk.i64_in _ (by omega)
        have s2 : IntKind.i64.wrap ((k : Int) + 1) = (k : Int) + 1 := IntWalk.i64_in _ (by omega)
        have s3 : IntKind.i64.wrap ((x3 : Int) + 1) = (x3 : Int) + 1 := IntWalk.i64_in _ (by omega)
        have KP := Lib.hid keep
        have GN := Lib.hid gone
        have NW := Lib.hid new
        clear keep gone new
        by_cases hab : a[i]'hia = b[k]'hkb
        · have hteq : ((bstr (a[i]'hia)).toList == (bstr (b[k]'hkb)).toList) = true := str_beq (by rw [hab])
          have HAB := Lib.hid hab
          clear hab
          by_cases hd : x3 + 1 = x1
          · have HS := Lib.hid (KP.out HAB.out hd)
            have hd' : ((x1 : Int) == (x3 : Int) + 1) = true := by rw [beq_iff_eq]; omega
            clear hd
            go_wp2
            go_quiet (fail)
            go_wp2_with fail
            refine (put_any w1.heap.size _ l 1 (a[i]) _ (HN0.out.drewN _) hwsz (by omega) HM1.out).mono ?_
            rintro e w3 ⟨v9, rfl, hn3, hb3⟩
            have HN3 := Lib.hid hn3
            have HB3 := Lib.hid hb3
            clear hn3 hb3
            try clear s1
            try clear s2
            try clear s3
            try clear t1
            try clear t2
            go_wp2
            go_roundw
            case rel =>
              refine ⟨i + 1, k + 1, addL l 1 (a[i]), by omega, by omega, by first | rfl | go_num, by first | rfl | go_num, HN3, HS.out.symm.trans HC.out, ChOf.add HL.out (by decide) (by decide) hla, ?_, ?_, HB3.out _ (below_drewN HW.out _)⟩
              · rw [chSum_add]; omega
              · have := addL_len l 1 (a[i]); omega
            case measure => simp only [intOf]; omega
          · have hn1 : Hid (¬ (a[i]'hia = b[k]'hkb ∧ x3 + 1 = x1)) := fun h => hd h.2
            have hd' : ((x1 : Int) == (x3 : Int) + 1) = false := by rw [beq_eq_false_iff_ne]; omega
            clear hd
            by_cases he : x2 = x1
            · have HS := Lib.hid (GN.out hn1.out he)
              have he' : ((x1 : Int) == (x2 : Int)) = true := by rw [beq_iff_eq]; omega
              clear he
              go_wp2
              go_quiet (fail)
              go_wp2
              go_quiet (fail)
              go_wp2_with fail
              refine (put_any w1.heap.size _ l 2 (a[i]) _ (HN0.out.drewN _) hwsz (by omega) HM1.out).mono ?_
              rintro e w3 ⟨v9, rfl, hn3, hb3⟩
              have HN3 := Lib.hid hn3
              have HB3 := Lib.hid hb3
              clear hn3 hb3
              try clear s1
              try clear s2
              try clear s3
              try clear t1
              try clear t2
              go_wp2
              go_roundw
              case rel =>
                refine ⟨i + 1, k, addL l 2 (a[i]), by omega, by omega, by first | rfl | go_num, by first | rfl | go_num, HN3, HS.out.symm.trans HC.out, ChOf.add HL.out (by decide) (by decide) hla, ?_, ?_, HB3.out _ (below_drewN HW.out _)⟩
                · rw [chSum_add]; omega
                · have := addL_len l 2 (a[i]); omega
              case measure => simp only [intOf]; omega
            · have HS := Lib.hid (NW.out hn1.out he)
              have he' : ((x1 : Int) == (x2 : Int)) = false := by rw [beq_eq_false_iff_ne]; omega
              clear he
              go_wp2
              go_quiet (fail)
              go_wp2
              go_quiet (fail)
              go_wp2_with fail
              refine (put_any w1.heap.size _ l 3 (b[k]) _ (HN0.out.drewN _) hwsz (by omega) HM1.out).mono ?_
              rintro e w3 ⟨v9, rfl, hn3, hb3⟩
              have HN3 := Lib.hid hn3
              have HB3 := Lib.hid hb3
              clear hn3 hb3
              try clear s1
              try clear s2
              try clear s3
              try clear t1
              try clear t2
              go_wp2
              go_roundw
              case rel =>
                refine ⟨i, k + 1, addL l 3 (b[k]), by omega, by omega, by first | rfl | go_num, by first | rfl | go_num, HN3, HS.out.symm.trans HC.out, ChOf.add HL.out (by decide) (by decide) hlb, ?_, ?_, HB3.out _ (below_drewN HW.out _)⟩
                · rw [chSum_add]; omega
                · have := addL_len l 3 (b[k]); omega
              case measure => simp only [intOf]; omega
        · have hteq : ((bstr (a[i]'hia)).toList == (bstr (b[k]'hkb)).toList) = false := str_bne (fun e => hab (bstr_inj e))
          have hn1 : Hid (¬ (a[i]'hia = b[k]'hkb ∧ x3 + 1 = x1)) := fun h => hab h.1
          clear hab
          by_cases he : x2 = x1
          · have HS := Lib.hid (GN.out hn1.out he)
            have he' : ((x1 : Int) == (x2 : Int)) = true := by rw [beq_iff_eq]; omega
            clear he
            go_wp2
            go_quiet (fail)
            go_wp2
            go_quiet (fail)
            go_wp2_with fail
            refine (put_any w1.heap.size _ l 2 (a[i]) _ (HN0.out.drewN _) hwsz (by omega) HM1.out).mono ?_
            rintro e w3 ⟨v9, rfl, hn3, hb3⟩
            have HN3 := Lib.hid hn3
            have HB3 := Lib.hid hb3
            clear hn3 hb3
            try clear s1
            try clear s2
            try clear s3
            try clear t1
            try clear t2
            go_wp2
            go_roundw
            case rel =>
              refine ⟨i + 1, k, addL l 2 (a[i]), by omega, by omega, by first | rfl | go_num, by first | rfl | go_num, HN3, HS.out.symm.trans HC.out, ChOf.add HL.out (by decide) (by decide) hla, ?_, ?_, HB3.out _ (below_drewN HW.out _)⟩
              · rw [chSum_add]; omega
              · have := addL_len l 2 (a[i]); omega
            case measure => simp only [intOf]; omega
          · have HS := Lib.hid (NW.out hn1.out he)
            have he' : ((x1 : Int) == (x2 : Int)) = false := by rw [beq_eq_false_iff_ne]; omega
            clear he
            go_wp2
            go_quiet (fail)
            go_wp2
            go_quiet (fail)
            go_wp2_with fail
            refine (put_any w1.heap.size _ l 3 (b[k]) _ (HN0.out.drewN _) hwsz (by omega) HM1.out).mono ?_
            rintro e w3 ⟨v9, rfl, hn3, hb3⟩
            have HN3 := Lib.hid hn3
            have HB3 := Lib.hid hb3
            clear hn3 hb3
            try clear s1
            try clear s2
            try clear s3
            try clear t1
            try clear t2
            go_wp2
            go_roundw
            case rel =>
              refine ⟨i, k + 1, addL l 3 (b[k]), by omega, by omega, by first | rfl | go_num, by first | rfl | go_num, HN3, HS.out.symm.trans HC.out, ChOf.add HL.out (by decide) (by decide) hlb, ?_, ?_, HB3.out _ (below_drewN HW.out _)⟩
              · rw [chSum_add]; omega
              · have := addL_len l 3 (b[k]); omega
            case measure => simp only [intOf]; omega
      · by_cases hin : i < n
        · obtain rfl : k = m := by omega
          have hia : i < a.length := by rw [HN.out]; exact hin
          obtain ⟨ad1, u1, rfl, _, hu1, hc1'⟩ := Rp.sl_at1 rfl (Rp.keep _ H1.out (same_below (B1.out.trans (HW.out.mono B1.out.size))) (fun _ h => h)) (k := i) (by rw [List.length_map]; exact hia)
          obtain ⟨hu1, _⟩ := hu1
          injection hu1 with hu1
          rw [List.getElem_map] at hu1
          subst hu1
          obtain ⟨adm, adi, ci, rfl, hn', hti, hci1, hci2, htk⟩ := tab_row (Rp.below _ HT.out HW.out) (i := i) (by omega)
          obtain ⟨adm', adj, cj, e9, -, htj, hcj1, hcj2, htl⟩ := tab_row (Rp.below _ HT.out HW.out) (i := i + 1) (by omega)
          injection e9 with e9
          subst e9
          have v1 := htk k (by rw [HM.out]; exact Nat.le_refl _)
          have v2 := htl k (by rw [HM.out]; exact Nat.le_refl _)
          rw [lcsAt_end _ _ _ _ (by rw [HM.out]; exact Nat.le_refl _)] at v1 v2
          rw [HM.out] at hti htj
          rw [add_succ] at htj
          have hla := HLA.out _ (List.getElem_mem hia)
          have HS := Lib.hid (chGo_left (out := l) (b := b) (k := k) hia (by rw [HM.out]; exact Nat.le_refl _))
          clear hn' htk htl hci1 hcj1 hci2 hcj2 h2 hik
          have i1 : (0 : Int) ≤ i + 1 := by omega
          have i1' : (i : Int) + 1 < (n : Int) + 1 := by omega
          have i3 : (i : Int) < (n : Int) + 1 := by omega
          have i4 : (k : Int) < (k : Int) + 1 := by omega
          have t1 : ((i : Int) + 1).toNat = i + 1 := by omega
          have s1 : IntKind.i64.wrap ((i : Int) + 1) = (i : Int) + 1 := IntWalk.i64_in _ (by omega)
          go_wp2
          go_quiet (fail)
          go_wp2
          go_quiet (fail)
          go_wp2_with fail
          refine (put_any w1.heap.size _ l 2 (a[i]) _ (HN0.out.drewN _) hwsz (by omega) HM1.out).mono ?_
          rintro e w3 ⟨v9, rfl, hn3, hb3⟩
          have HN3 := Lib.hid hn3
          have HB3 := Lib.hid hb3
          clear hn3 hb3
          try clear s1
          try clear s2
          try clear s3
          try clear t1
          try clear t2
          go_wp2
          go_roundw
          case rel =>
            refine ⟨i + 1, k, addL l 2 (a[i]), by omega, by omega, by first | rfl | go_num, by first | rfl | go_num, HN3, HS.out.symm.trans HC.out, ChOf.add HL.out (by decide) (by decide) hla, ?_, ?_, HB3.out _ (below_drewN HW.out _)⟩
            · rw [chSum_add]; omega
            · have := addL_len l 2 (a[i]); omega
          case measure => simp only [intOf]; omega
        · obtain rfl : i = n := by omega
          have hkm : k < m := by omega
          have hkb : k < b.length := by rw [HM.out]; exact hkm
          obtain ⟨ad2, u2, rfl, _, hu2, hc2'⟩ := Rp.sl_at1 rfl (Rp.keep _ H2.out (same_below (B1.out.trans (HW.out.mono B1.out.size))) (fun _ h => h)) (k := k) (by rw [List.length_map]; exact hkb)
          obtain ⟨hu2, _⟩ := hu2
          injection hu2 with hu2
          rw [List.getElem_map] at hu2
          subst hu2
          have hlb := HLB.out _ (List.getElem_mem hkb)
          have HS := Lib.hid (chGo_right (out := l) (a := a) (i := i) (by rw [HN.out]; exact Nat.le_refl _) hkb)
          clear h2 hik hin
          go_wp2
          go_quiet (fail)
          go_wp2
          go_quiet (fail)
          go_wp2_with fail
          refine (put_any w1.heap.size _ l 3 (b[k]) _ (HN0.out.drewN _) hwsz (by omega) HM1.out).mono ?_
          rintro e w3 ⟨v9, rfl, hn3, hb3⟩
          have HN3 := Lib.hid hn3
          have HB3 := Lib.hid hb3
          clear hn3 hb3
          try clear s1
          try clear s2
          try clear s3
          try clear t1
          try clear t2
          go_wp2
          go_roundw
          case rel =>
            refine ⟨i, k + 1, addL l 3 (b[k]), by omega, by omega, by first | rfl | go_num, by first | rfl | go_num, HN3, HS.out.symm.trans HC.out, ChOf.add HL.out (by decide) (by decide) hlb, ?_, ?_, HB3.out _ (below_drewN HW.out _)⟩
            · rw [chSum_add]; omega
            · have := addL_len l 3 (b[k]); omega
          case measure => simp only [intOf]; omega
    · obtain rfl : i = n := by omega
      obtain rfl : k = m := by omega
      have hfin := HC.out
      rw [chGo_end (by rw [HN.out]; exact Nat.le_refl _) (by rw [HM.out]; exact Nat.le_refl _)] at hfin
      have HR : Hid ((Rp.sl chRp).ok wr (· < wr.heap.size) [u9] (changesL a b)) := by rw [← hfin]; exact nest_ch HN0.out HL.out
      have HBF : Hid (Below w.heap.size w wr) := B1.out.trans (HW.out.mono B1.out.size)
      clear hfin hik
      go_wp2
      go_ret2
      exact HGOOD.out _ _ HR.out (ext_trans HB0.out HBF.out)

set_option maxRecDepth 100000 in
set_option maxHeartbeats 1000000 in
theorem refChanges_any (a b : List UInt8) (w : World) (ha : a.length ≤ maxLen) (hb : b.length ≤ maxLen) : Calls Try.prog 37 #[.string (bstr a), .string (bstr b)] w (Changes2Post a b w) := by
  cases hok : chgOk a b with
  | true => exact refChanges_good a b w hok
  | false =>
    have z1 : (bstr a).size = a.length := rfl
    have z2 : (bstr b).size = b.length := rfl
    unfold maxLen at ha hb
    have HF : Hid (∀ w', Below w.heap.size w w' → Changes2Post a b w (.returned (.tuple #[.slice none 0 0, .int .i64 2])) w') := fun w' h => changes2_bad hok h
    by_cases h1 : a.length ≤ 20000
    · by_cases h2 : b.length ≤ 20000
      · have key : ¬ (linesL a).length ≤ 400 ∨ ((linesL a).length ≤ 400 ∧ ¬ (linesL b).length ≤ 400) := by
          by_cases h3 : (linesL a).length ≤ 400
          · by_cases h4 : (linesL b).length ≤ 400
            · rw [chgOk_yes h1 h2 h3 h4] at hok; cases hok
            · exact .inr ⟨h3, h4⟩
          · exact .inl h3
        clear hok
        go_enter Try.func37, Try.ntmps37
        go_wp2_with fail
        refine (refLines_any a _ h1).mono ?_
        intro e w1 hp
        obtain ⟨v1, rfl, hv1, hb1⟩ := lines_read h1 hp
        clear hp
        have HB1 := Lib.hid hb1
        clear hb1
        go_wp2_with fail
        refine (refLines_any b _ h2).mono ?_
        intro e w2 hp
        obtain ⟨v2, rfl, hv2, hb2⟩ := lines_read h2 hp
        have HB2 := Lib.hid (ext_trans HB1.out hb2)
        clear hp hb2
        obtain ⟨A1, c1, rfl, _⟩ := Rp.sl_open hv1
        obtain ⟨A2, c2, rfl, _⟩ := Rp.sl_open hv2
        clear hv1 hv2
        rw [List.length_map] at *
        rw [List.length_map] at *
        rcases key with h3 | ⟨h3, h4⟩
        · go_wp2
          go_ret2
          exact HF.out _ HB2.out
        · go_wp2
          go_ret2
          exact HF.out _ HB2.out
      · clear hok
        go_enter Try.func37, Try.ntmps37
        go_wp2
        go_ret2
        exact HF.out _ (Below.refl _ _)
    · clear hok
      go_enter Try.func37, Try.ntmps37
      go_wp2
      go_ret2
      exact HF.out _ (Below.refl _ _)
end Go.Proofs.Ytofahmdjhpbecaa
