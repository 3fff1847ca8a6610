/-
  Moves of the reference of chapter 11.
-/
import Derived.Test.YtdeeiifcjbmmiaaGreatDoorMvP
import Derived.Test.YtdeeiifcjbmmiaaGreatDoorContS
import Derived.Test.YtdeeiifcjbmmiaaGreatDoorMoves
namespace Go.Proofs.YtdeeiifcjbmmiaaGreatDoor
open Go.RowKit
set_option linter.unusedVariables false
set_option linter.unusedSimpArgs false

set_option maxRecDepth 100000 in
set_option maxHeartbeats 16000000 in
theorem refMoves_any (v0 : Value) (bef : List Site) (v1 : Value) (aft : List Site) (v2 : Value) (its : List (List UInt8)) (many : Int) (w : World) (h0 : (Rp.sl siteRp).ok w (· < w.heap.size) [v0] bef) (h1 : (Rp.sl siteRp).ok w (· < w.heap.size) [v1] aft) (h2 : namesRp.ok w (· < w.heap.size) [v2] its) :
    Calls Tryz.prog 13 #[v0, v1, v2, .int .i64 many] w (MvPost bef aft its many w) := by
  obtain ⟨A0, k0, rfl, _⟩ := Rp.sl_open h0
  obtain ⟨A1, k1, rfl, _⟩ := Rp.sl_open h1
  obtain ⟨A2, c2, rfl, hl2, hc2, _⟩ := names_open h2
  unfold maxLen at hc2
  have H0 := Lib.hid h0
  have H1 := Lib.hid h1
  have H2 := Lib.hid h2
  clear h0 h1 h2
  have HB0 := Lib.hid (Below.refl w.heap.size w)
  go_enter Tryz.func13, Tryz.ntmps13
  go_wp2_with fail
  refine (refCheckSites_any _ bef _ (Rp.ext _ H0.out HB0.out)).mono ?_
  rintro e w1 ⟨rfl, hb⟩
  have HB1 := Lib.hid (below_tr2 HB0.out hb HB0.out.size)
  clear hb HB0
  by_cases ha : sitesFault bef = 0
  case neg =>
    have HF : Hid (mvFault bef aft its many = sitesFault bef) := Lib.hid (mvF_1 ha)
    have HN := Lib.hid ha
    have hn : (sitesFault bef != 0) = true := by simpa using ha
    clear ha
    generalize sitesFault bef = ff at *
    go_wp2_with fail
    go_ret2
    exact MvPost.bad HF.out HN.out HB1.out
  have HA := Lib.hid ha
  have HOB := Lib.hid (sok_of ha)
  rw [ha]
  clear ha
  go_wp2_with fail
  refine (refCheckSites_any _ aft _ (Rp.ext _ H1.out HB1.out)).mono ?_
  rintro e w2 ⟨rfl, hb⟩
  have HB2 := Lib.hid (below_tr2 HB1.out hb HB1.out.size)
  clear hb HB1
  by_cases ha : sitesFault aft = 0
  case neg =>
    have HF : Hid (mvFault bef aft its many = sitesFault aft) := Lib.hid (mvF_2 HA.out ha)
    have HN := Lib.hid ha
    have hn : (sitesFault aft != 0) = true := by simpa using ha
    clear ha
    generalize sitesFault aft = ff at *
    go_wp2_with fail
    go_ret2
    exact MvPost.bad HF.out HN.out HB2.out
  have HOA := Lib.hid (sok_of ha)
  have HF2 := Lib.hid (mvF_3 (its := its) (many := many) HA.out ha)
  have HNE : Hid (∀ x ∈ bef, x.name ≠ []) := Lib.hid (fun x hx e => by have h := nm_len (sites_nmP HA.out x hx); rw [e] at h; exact absurd h.1 (by decide))
  rw [ha]
  clear ha
  go_wp2_with fail
  refine (refCheckItems_any _ its many _ (Rp.ext _ H2.out HB2.out)).mono ?_
  rintro e w3 ⟨rfl, hb⟩
  have HB3 := Lib.hid (below_tr2 HB2.out hb HB2.out.size)
  clear hb HB2
  by_cases ha : itemsFault its many = 0
  case neg =>
    have HF : Hid (mvFault bef aft its many = itemsFault its many) := HF2
    have HN := Lib.hid ha
    have hn : (itemsFault its many != 0) = true := by simpa using ha
    clear ha
    generalize itemsFault its many = ff at *
    go_wp2_with fail
    go_ret2
    exact MvPost.bad HF.out HN.out HB3.out
  have HF : Hid (mvFault bef aft its many = 0) := Lib.hid (HF2.out.trans ha)
  have hok := items_ok ha
  have HNI : Hid (∀ x ∈ its, x.length ≤ 40) := Lib.hid (fun x hx => nm_len40 (hok.2.2.1 x hx))
  obtain ⟨M, rfl⟩ : ∃ M : Nat, many = (M : Int) := ⟨many.toNat, by omega⟩
  rw [ha]
  clear ha HF2
  have hm1 : 1 ≤ M := by omega
  have hm2 : M ≤ 50 := by omega
  have hi3 : its.length ≤ 3000 := hok.1
  clear hok
  go_wp2_with fail
  go_loopw [13, 41] (fun vo vi wr => ∃ k : Nat, k ≤ its.length ∧ vi = .int .i64 k ∧ Hid (wr.ownsRow w3.heap.size 41 3 vo (mvAll bef aft (its.take k) M).length ((mvAll bef aft (its.take k) M).flatMap mvCells)) ∧ Hid (Below w3.heap.size w3 wr)) (fun _ vi _ => its.length - (intOf vi).toNat)
  case atStart => exact ⟨0, Nat.zero_le _, rfl, by rw [List.take_zero]; exact Lib.hid (World.ownsRow_nil _ _ _ _), Below.refl _ _⟩
  case round =>
    obtain ⟨k, hk, rfl, HO, HB⟩ := hrel
    by_cases hlt : k < its.length
    · obtain ⟨ad, c', e1, hadb, c0, hz⟩ := names_at (namesRp.below H2.out (HB3.out.trans (HB.out.mono HB3.out.size))) hlt
      cases e1
      have hil : its[k].length ≤ 40 := HNI.out _ (List.getElem_mem hlt)
      have HNX := Lib.hid (mvAll_next bef aft its M hlt)
      have hbl := mvAll_len bef aft M hm2 (its.take k)
      rw [List.length_take, Nat.min_eq_left hk] at hbl
      generalize mvAll bef aft (its.take k) M = base at *
      generalize hx : its[k] = it at *
      clear hx hz
      obtain ⟨wb, hwb⟩ : ∃ wb, wb = wr := ⟨_, rfl⟩
      subst hwb
      have HBW := Lib.hid (HB3.out.trans (HB.out.mono HB3.out.size))
      go_wp2_with fail
      refine (refPlaces_any _ bef it M wb (Rp.ext _ H0.out HBW.out) HOB.out.nm HOB.out.pos HOB.out.few hm1 hm2 (by omega)).mono ?_
      rintro e w5 ⟨v5, rfl, hO, hb5⟩
      have HB5 := Lib.hid (HB.out.trans (hb5.mono HB.out.size))
      have HO5 := Lib.hid (own_blwP HO.out hb5)
      have HPM := Lib.hid (pl_names HOB.out (it := it) (M := M))
      have HPE : Hid (∀ y ∈ plL bef it M, y ≠ []) := Lib.hid (fun y hy => by obtain ⟨z, hz, rfl⟩ := plL_mem HOB.out hy; exact HNE.out z hz)
      have hpl := plL_len bef it M
      have HIN : Hid (mvIn bef aft M it = (newL (plL bef it M) (srtN (plL aft it M))).map (mkMv it (fromF aft (plL bef it M)))) := Lib.hid rfl
      rw [HIN.out] at HNX
      clear HIN
      generalize plL bef it M = was at *
      have HW5 := Lib.hid hO
      have HZ5 := Lib.hid hb5.size
      have HZB := Lib.hid HB.out.size
      obtain ⟨A5, c5, hv5, hlc5, hcm5, _⟩ := own_form hO
      subst hv5
      unfold maxLen at hcm5
      clear hO hb5 HB HO HBW
      have HBW5 := Lib.hid (HB3.out.trans (HB5.out.mono HB3.out.size))
      go_wp2_with fail
      refine (refPlaces_any _ aft it M w5 (Rp.ext _ H1.out HBW5.out) HOA.out.nm HOA.out.pos HOA.out.few hm1 hm2 (by omega)).mono ?_
      rintro e w7 ⟨v7, rfl, hO, hb7⟩
      have HW7 := Lib.hid (own_blwP HW5.out hb7)
      have HO7 := Lib.hid (own_blwP HO5.out hb7)
      have HB7 := Lib.hid (HB5.out.trans (hb7.mono HB5.out.size))
      have HZ7 := Lib.hid (show wb.heap.size ≤ w7.heap.size from Nat.le_trans HZ5.out hb7.size)
      have HGW : Hid (∀ g, (Value.slice A5 was.length c5).ownBlock = some g → g < w5.heap.size) := Lib.hid (fun g hg => (HW5.out.lt g hg).2)
      have HIM := Lib.hid (pl_names HOA.out (it := it) (M := M))
      have hpa := plL_len aft it M
      generalize plL aft it M = is at *
      have HI7 := Lib.hid hO
      obtain ⟨A7, c7, hv7, hlc7, hcm7, _⟩ := own_form hO
      subst hv7
      unfold maxLen at hcm7
      clear hO hb7 HW5 HO5 HB5 HBW5
      go_wp2_with fail
      go_loopw [18, 55] (fun vf vj wq => ∃ j : Nat, j ≤ was.length ∧ vj = .int .i64 j ∧ vf = .string (bstr (fromF aft (was.take j))) ∧ Hid (wq.ownsRow w3.heap.size 41 3 u13 base.length (base.flatMap mvCells)) ∧ Hid (wq.ownsRow wb.heap.size 9 1 (.slice A5 was.length c5) was.length (was.map fun t => .string (bstr t))) ∧ Hid (wq.ownsRow w5.heap.size 9 1 (.slice A7 is.length c7) is.length (is.map fun t => .string (bstr t))) ∧ Hid (wb.heap.size ≤ wq.heap.size) ∧ Hid (Below w3.heap.size w3 wq)) (fun _ vj _ => was.length - (intOf vj).toNat)
      case atStart => exact ⟨0, Nat.zero_le _, rfl, rfl, HO7, HW7, HI7, HZ7, HB7⟩
      case round =>
        clear HO7 HW7 HI7 HZ7 HB7
        obtain ⟨j, hj, rfl, rfl, HO8, HW8, HI8, HZ8, HB8⟩ := hrel
        by_cases hjl : j < was.length
        · obtain ⟨ad6, c6, e6, _, q0, hz⟩ := names_at (l := was) (names_own2 HW8.out HPM.out) hjl
          cases e6
          have HFN := Lib.hid (fromF_next aft was hjl)
          have hcs := Lib.hid (siteOf_any _ aft was[j] wr (Rp.ext _ H1.out (HB3.out.trans (HB8.out.mono HB3.out.size))))
          generalize was[j] = x at *
          obtain ⟨f0, hf0⟩ : ∃ f0, f0 = fromF aft (was.take j) := ⟨_, rfl⟩
          rw [← hf0] at HFN ⊢
          clear hf0 hz
          by_cases hf : f0 = []
          · subst hf
            have hem : (bstr ([] : List UInt8)).toList.isEmpty = true := by rw [bstr_toList]; rfl
            go_wp2_with fail
            refine hcs.out.mono ?_
            rintro e w9 ⟨rfl, hb9⟩
            have HO9 := Lib.hid (own_blwP HO8.out hb9)
            have HW9 := Lib.hid (own_blwP HW8.out hb9)
            have HI9 := Lib.hid (own_blwP HI8.out hb9)
            have HZ9 := Lib.hid (Nat.le_trans HZ8.out hb9.size)
            have HB9 := Lib.hid (HB8.out.trans (hb9.mono HB8.out.size))
            clear hb9 HO8 HW8 HI8 HZ8 HB8 hcs
            by_cases hq : 0 ≤ siteIdx aft x
            · have HFE : Hid (fromF aft (was.take (j + 1)) = x) := Lib.hid (by rw [HFN.out, frStep, if_pos ⟨rfl, hq⟩])
              clear HFN
              go_wp2_with fail
              go_roundw
              case rel => exact ⟨j + 1, by omega, by go_num, by rw [HFE.out], HO9, HW9, HI9, HZ9, HB9⟩
              case measure => simp [intOf]; omega
            · have HFE : Hid (fromF aft (was.take (j + 1)) = []) := Lib.hid (by rw [HFN.out, frStep, if_neg (fun h => hq h.2)])
              clear HFN
              go_wp2_with fail
              go_roundw
              case rel => exact ⟨j + 1, by omega, by go_num, by rw [HFE.out], HO9, HW9, HI9, HZ9, HB9⟩
              case measure => simp [intOf]; omega
          · have hem : (bstr f0).toList.isEmpty = false := by
              rw [bstr_toList]
              cases f0 with
              | nil => exact absurd rfl hf
              | cons _ _ => rfl
            have HFE : Hid (fromF aft (was.take (j + 1)) = f0) := Lib.hid (by rw [HFN.out, frStep, if_neg (fun h => hf h.1)])
            clear HFN hf hcs
            go_wp2_with fail
            go_roundw
            case rel => exact ⟨j + 1, by omega, by go_num, by rw [HFE.out], HO8, HW8, HI8, HZ8, HB8⟩
            case measure => simp [intOf]; omega
        · have HTE : Hid (was.take j = was) := Lib.hid (List.take_of_length_le (by omega))
          rw [HTE.out]
          clear HTE
          obtain ⟨fr, hfr⟩ : ∃ fr, fr = fromF aft was := ⟨_, rfl⟩
          have HFR := Lib.hid hfr
          rw [← hfr]
          clear hfr
          have HSO := Lib.hid (sortS_any _ is w5.heap.size wr HI8.out (by omega))
          obtain ⟨v7, hv7⟩ : ∃ v7, v7 = Value.slice A7 is.length c7 := ⟨_, rfl⟩
          have HV7 := Lib.hid hv7
          go_wp2_with fail
          refine HSO.out.mono ?_
          rintro e w9 ⟨rfl, ts, hp, hs, hO9, hg9⟩
          have HTS : Hid (ts = srtN is) := Lib.hid (srtN_is hp hs)
          have htl : ts.length = is.length := hp.length_eq
          have HTM : Hid (∀ x ∈ ts, x.length ≤ maxLen) := Lib.hid (fun x hx => HIM.out x (hp.mem_iff.1 hx))
          have HT9 : Hid (w9.ownsRow wb.heap.size 9 1 (.slice A7 ts.length c7) ts.length (ts.map fun t => .string (bstr t))) := Lib.hid (by rw [htl]; rw [htl] at hO9; exact own_baseP hO9 HZ5.out)
          have HW9 := Lib.hid (HW8.out.kept hg9 (by
            cases hv : (Value.slice A5 was.length c5).ownBlock with
            | none => exact .inl rfl
            | some g => exact .inr (fun e => by have h1 := HGW.out g hv; have h2 := (HI8.out.lt g e.symm).1; omega)))
          have HO9 := Lib.hid (own_keptT HO8.out HI8.out (by decide) hg9)
          have HB9 := Lib.hid (HB8.out.grown hg9 HB8.out.size (fun j e => by have := (HI8.out.lt j e).1; have := HZ5.out; have := HZB.out; omega))
          rw [← htl]
          have HZ9 := Lib.hid (Nat.le_trans HZ8.out hg9.size)
          have hlc9 : ts.length ≤ c7 := by omega
          clear hp hs hO9 hg9 HSO HW8 HO8 HB8 HZ8 HIM hv7 HV7
          go_wp2_with fail
          go_loopw [13, 73] (fun vo vj wq => ∃ j : Nat, j ≤ ts.length ∧ vj = .int .i64 j ∧ Hid (wq.ownsRow w3.heap.size 41 3 vo (base ++ (newL was (ts.take j)).map (mkMv it fr)).length ((base ++ (newL was (ts.take j)).map (mkMv it fr)).flatMap mvCells)) ∧ Hid (wq.ownsRow wb.heap.size 9 1 (.slice A5 was.length c5) was.length (was.map fun t => .string (bstr t))) ∧ Hid (wq.ownsRow wb.heap.size 9 1 (.slice A7 ts.length c7) ts.length (ts.map fun t => .string (bstr t))) ∧ Hid (Below w3.heap.size w3 wq)) (fun _ vj _ => ts.length - (intOf vj).toNat)
          case atStart => exact ⟨0, Nat.zero_le _, rfl, by rw [List.take_zero, show (newL was []).map (mkMv it fr) = [] from rfl, List.append_nil]; exact HO9, HW9, HT9, HB9⟩
          case round =>
            clear HO9 HW9 HT9 HB9
            obtain ⟨j, hj, rfl, HOQ, HWQ, HTQ, HBQ⟩ := hrel
            by_cases hjl : j < ts.length
            · obtain ⟨ad6, c6, e6, _, q0, hz⟩ := names_at (l := ts) (names_own2 HTQ.out HTM.out) hjl
              cases e6
              have HNL := Lib.hid (newL_next was ts hjl)
              have hnl : (newL was (ts.take j)).length ≤ j := by
                unfold newL
                refine Nat.le_trans (List.length_filter_le _ _) ?_
                rw [List.length_take]
                exact Nat.min_le_left _ _
              generalize newL was (ts.take j) = nw at *
              generalize hx : ts[j] = x at *
              clear hx hz
              go_wp2_with fail
              refine (contains_any _ was x _ _ (names_of_own HWQ.out HPM.out)).mono ?_
              rintro e w12 ⟨rfl, hw⟩
              subst hw
              by_cases hin : x ∈ was
              · rw [decide_eq_true hin]
                have HNK : Hid (newL was (ts.take (j + 1)) = nw) := Lib.hid (by rw [HNL.out, if_pos hin, List.append_nil])
                clear hin HNL q0
                go_wp2_with fail
                go_roundw
                case rel => exact ⟨j + 1, by omega, by go_num, by rw [HNK.out]; exact HOQ, HWQ, HTQ, HBQ⟩
                case measure => simp [intOf]; omega
              · rw [decide_eq_false hin]
                have HNK : Hid (newL was (ts.take (j + 1)) = nw ++ [x]) := Lib.hid (by rw [HNL.out, if_neg hin])
                clear hin HNL q0
                have hbz : w3.heap.size ≤ w12.heap.size := HBQ.out.size
                have hlen : (base ++ nw.map (mkMv it fr)).length ≤ 150050 := by rw [List.length_append, List.length_map]; omega
                generalize hbn : (base ++ nw.map (mkMv it fr)) = bn at *
                have HBN := Lib.hid hbn
                clear hbn
                go_wp2_with (at_builtin; refine app_new (w := w12) rfl (.tmp 81) (.tmp 86) 36 rfl 41 (.agg #[.string ⟨#[]⟩, .string ⟨#[]⟩, .string ⟨#[]⟩]) 3 48 Tryz.underlying36 mv_info rfl (by decide) (m := 1) [.string (bstr it), .string (bstr fr), .string (bstr x)] HOQ.out hbz rfl rfl rfl (by decide) (by simp [Value.oneCell']) (by unfold maxLen; omega) (by omega) ?_; intro g4 c4 w4 HB4 HG4 HD4 HL4)
                have HO4 : Hid (w4.ownsRow w3.heap.size 41 3 (.slice (some ⟨g4, 0, none⟩) (bn.length + 1) c4) (base ++ (newL was (ts.take (j + 1))).map (mkMv it fr)).length ((base ++ (newL was (ts.take (j + 1))).map (mkMv it fr)).flatMap mvCells)) := Lib.hid (by
                  rw [HNK.out, List.map_append, ← List.append_assoc, HBN.out, List.length_append, List.flatMap_append]
                  simpa [mvCells, mkMv] using HB4.out)
                have HW4 := Lib.hid (own_keptT HWQ.out HOQ.out (by decide) HG4.out)
                have HT4 := Lib.hid (own_keptT HTQ.out HOQ.out (by decide) HG4.out)
                go_roundw
                case rel => exact ⟨j + 1, by omega, by go_num, HO4, HW4, HT4, HD4.out _ HBQ.out⟩
                case measure => simp [intOf]; omega
            · have HTE : Hid (ts.take j = ts) := Lib.hid (List.take_of_length_le (by omega))
              rw [HTE.out] at HOQ
              have HEND : Hid (base ++ (newL was ts).map (mkMv it fr) = mvAll bef aft (its.take (k + 1)) M) := Lib.hid (by rw [HNX.out, ← HFR.out, ← HTS.out])
              rw [HEND.out] at HOQ
              clear HTE HEND
              go_wp2_with fail
              go_roundw
              case rel => exact ⟨k + 1, by omega, by go_num, HOQ, HBQ⟩
              case measure => simp [intOf]; omega
    · have HKA : Hid (its.take k = its) := Lib.hid (List.take_of_length_le (by omega))
      rw [HKA.out] at HO
      have HPP : Hid (MvPost bef aft its (M : Int) w (.returned (.tuple #[u13, .int .i64 0])) wr) := Lib.hid (MvPost.good HOB.out HOA.out HNI.out HF.out HO.out (HB3.out.trans (HB.out.mono HB3.out.size)))
      go_wp2_with fail
      go_ret2
      exact HPP.out
end Go.Proofs.YtdeeiifcjbmmiaaGreatDoor
