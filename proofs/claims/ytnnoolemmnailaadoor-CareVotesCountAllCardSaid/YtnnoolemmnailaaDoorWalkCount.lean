/-
  The law 'CareVotesCountAll' walked: it returns true.
-/
import Derived.Test.YtnnoolemmnailaaDoorTypesV
import Derived.Test.YtnnoolemmnailaaDoorContains
import Derived.Test.YtnnoolemmnailaaDoorAwake11
import Derived.Deep.RegionHeld3
namespace Go.Proofs.YtnnoolemmnailaaDoor
open Go.RowKit
set_option linter.unusedVariables false
set_option linter.unusedSimpArgs false

theorem siteSum_take (ns : List (List UInt8)) (s : List Site) (k : Nat) (h : k < s.length) : siteSum ns (s.take (k + 1)) = siteSum ns (s.take k) + if s[k].name ∈ ns then s[k].weight else 0 := by
  rw [List.take_succ_eq_append_getElem h, siteSum_app]; simp [siteSum]
theorem siteSum_range (ns : List (List UInt8)) : ∀ (s : List Site), (∀ x ∈ s, 1 ≤ x.weight ∧ x.weight ≤ 1000) → 0 ≤ siteSum ns s ∧ siteSum ns s ≤ 1000 * s.length
  | [], _ => by simp [siteSum]
  | x :: s, h => by
    have := siteSum_range ns s fun y hy => h y (by simp [hy])
    have := h x (by simp)
    rw [siteSum, List.length_cons]; split <;> omega
theorem held_drew {w : World} {v : Value} {l : List Held} (h : (Rp.sl heldRp).ok w (· < w.heap.size) [v] l) : (Rp.sl heldRp).ok w.drew (· < w.drew.heap.size) [v] l := Rp.ext _ h ((Below.refl _ _).drew)
theorem site_at3 {w : World} {S : Nat → Prop} {v : Value} {l : List Site} (h : (Rp.sl siteRp).ok w S [v] l) {k : Nat} (hk : k < l.length) :
    ∃ ad c, v = .slice (some ad) l.length c ∧ w.cell? (ad.add (k * 3)) = some (.string (bstr l[k].name)) ∧ w.cell? ⟨(ad.add (k * 3)).block, (ad.add (k * 3)).off + 1, none⟩ = some (.int .i64 l[k].weight) ∧
      w.cell? ⟨(ad.add (k * 3)).block, (ad.add (k * 3)).off + 2, none⟩ = some (.int .i64 l[k].room) ∧ l[k].name.length ≤ 9223372036854775807 := by
  obtain ⟨A, c, rfl, _⟩ := Rp.sl_open h
  obtain ⟨ad, us, rfl, _, hb, hu, hcell⟩ := Rp.sl_at h hk
  obtain ⟨rfl, hz1⟩ := site_open hu
  have c0 := hcell 0 _ rfl
  have c1 := hcell 1 _ rfl
  have c2 := hcell 2 _ rfl
  rw [add_fld _ _ _ (by omega)] at c1 c2
  unfold maxLen at hz1
  exact ⟨ad, c, rfl, c0, c1, c2, by omega⟩
set_option maxRecDepth 100000 in
set_option maxHeartbeats 4000000 in
theorem countLaw_any (v0 : Value) (s : List Site) (v1 : Value) (l : List Held) (w : World) (h0 : (Rp.sl siteRp).ok w (· < w.heap.size) [v0] s) (f0 : (Rp.sl siteRp).fits s)
    (h1 : (Rp.sl heldRp).ok w (· < w.heap.size) [v1] l) (f1 : (Rp.sl heldRp).fits l) :
    Calls Tryd.prog 7 #[v0, v1] w fun e w' => e = .returned (.bool true) ∧ Below w.heap.size w w' := by
  obtain ⟨A0, c0, rfl, hls, hcs, _⟩ := Rp.sl_open h0
  unfold maxLen at hcs
  have H0 := Lib.hid h0
  have H1 := Lib.hid h1
  clear f0 f1 h0 h1
  go_enter Tryd.func7, Tryd.ntmps7
  go_wp2_with fail
  refine (votesTop_any _ s v1 l w H0.out H1.out).mono ?_
  rintro e w1 ⟨x, rfl, hx, hb1⟩
  have HX := Lib.hid hx
  have H01 := Lib.hid (Rp.ext _ H0.out hb1)
  have H11 := Lib.hid (Rp.ext _ H1.out hb1)
  have HB1 := Lib.hid hb1
  clear hb1 hx H0 H1
  by_cases hf : copiesFault s l = 0
  · have HCNT := Lib.hid (fun V hV => vote_counts (s := s) (l := l) (V := V) hf hV)
    have HWT := Lib.hid (sites_ok (copies_ok hf).1).2.2
    have hs50 := (sites_ok (copies_ok hf).1).2.1
    have hl3 := (copies_ok hf).2.1
    rw [votesTopL, if_pos hf] at HX
    rw [hf]
    clear hf
    generalize votesOf s l = vs at *
    obtain ⟨A, c, rfl, hlv, hcv, _⟩ := Rp.sl_open HX.out
    unfold maxLen at hcv
    go_wp2_with fail
    go_loopw [29] (fun i wr => ∃ k : Nat, k ≤ vs.length ∧ i = .int .i64 k ∧ Hid (Below w1.heap.size w1 wr)) (fun i _ => vs.length - (intOf i).toNat)
    case atStart => exact ⟨0, by omega, rfl, Below.refl _ _⟩
    case round =>
      obtain ⟨k, hk, rfl, HB⟩ := hrel
      by_cases hlt : k < vs.length
      · obtain ⟨ad, c', x1, x2, e1, _, c0, c1, c2, c3, hz1, hz2, hr, hwr⟩ := votes_at (Rp.below _ HX.out HB.out) hlt
        injection e1 with e1 _ e3
        subst e1 e3
        obtain ⟨A3, c3', rfl, hl3', hc3, _⟩ := Rp.sl_open hr
        obtain ⟨A4, c4', rfl, hl4', hc4, _⟩ := Rp.sl_open hwr
        rw [List.length_map] at hr hwr c2 c3 hl3' hl4'
        have HR := Lib.hid hr
        have HW := Lib.hid hwr
        obtain ⟨hn1, hn2, hn3⟩ := HCNT.out _ (List.getElem_mem hlt)
        have hmany := many_le l vs[k].item l.length (Nat.le_refl _)
        rw [List.take_length] at hmany
        have HN1 := Lib.hid hn1
        have HN2 := Lib.hid hn2
        have HN3 := Lib.hid hn3
        have hlen : vs[k].right.length + vs[k].wrong.length ≤ 3000 := by omega
        unfold maxLen at hz1 hz2
        clear hr hwr hn1 hn2 hn3 hmany hl3' hl4' hc3 hc4
        generalize vs[k] = x at *
        have HBA := Lib.hid (HB.out.alloc HB.out.size (.cells #[.string (bstr x.item), .string (bstr x.digest), .slice A3 x.right.length c3', .slice A4 x.wrong.length c4'] 60))
        have hbw := (Below.refl wr.heap.size wr).alloc (Nat.le_refl _) (.cells #[.string (bstr x.item), .string (bstr x.digest), .slice A3 x.right.length c3', .slice A4 x.wrong.length c4'] 60)
        have HKB := Lib.hid (Blk.new wr 60 [.string (bstr x.item), .string (bstr x.digest), .slice A3 x.right.length c3', .slice A4 x.wrong.length c4'])
        have HRA := Lib.hid (Rp.ext _ (Rp.sub _ HR.out (T := fun b => b < wr.heap.size) (fun g hg => by have := HB.out.size; have hg : g < w1.heap.size := hg; show g < _; omega)) hbw)
        have HWA := Lib.hid (Rp.ext _ (Rp.sub _ HW.out (T := fun b => b < wr.heap.size) (fun g hg => by have := HB.out.size; have hg : g < w1.heap.size := hg; show g < _; omega)) hbw)
        clear HB HR HW hbw
        generalize hwa : wr.alloc (.cells #[.string (bstr x.item), .string (bstr x.digest), .slice A3 x.right.length c3', .slice A4 x.wrong.length c4'] 60) = wa at *
        have hsza : wr.heap.size < wa.heap.size := by rw [← hwa, World.size_alloc]; omega
        obtain ⟨bv, hbv⟩ : ∃ bv, bv = wr.heap.size := ⟨_, rfl⟩
        have HWA2 := Lib.hid hwa
        have HBV := Lib.hid hbv
        rw [← hbv] at HKB hsza
        clear hwa hbv
        go_wp2_with fail
        rw [HWA2.out, ← HBV.out]
        clear c0 c1 c2 c3
        go_loopw [9, 10, 35] (fun vp vq i w2 => ∃ j : Nat, j ≤ s.length ∧ i = .int .i64 j ∧ vp = .int .i64 (siteSum x.right (s.take j)) ∧ vq = .int .i64 (siteSum (x.right ++ x.wrong) (s.take j)) ∧ Hid (Below wa.heap.size wa w2)) (fun _ _ i _ => s.length - (intOf i).toNat)
        case atStart => exact ⟨0, by omega, rfl, rfl, rfl, Below.refl _ _⟩
        case round =>
          obtain ⟨j, hj, rfl, rfl, rfl, HB2⟩ := hrel
          have hsz2 := HB2.out.size
          by_cases hjl : j < s.length
          · obtain ⟨ad2, cs', e2, q0, q1, q2, qz⟩ := site_at3 (Rp.below _ (Rp.below _ H01.out HBA.out) (HB2.out.mono HBA.out.size)) hjl
            injection e2 with e2 _ e3
            subst e2 e3
            have hwt := HWT.out _ (List.getElem_mem hjl)
            have r1 := siteSum_range x.right (s.take j) (fun y hy => HWT.out y (List.mem_of_mem_take hy))
            have r2 := siteSum_range (x.right ++ x.wrong) (s.take j) (fun y hy => HWT.out y (List.mem_of_mem_take hy))
            rw [List.length_take] at r1 r2
            have HT1 := Lib.hid (siteSum_take x.right s j hjl)
            have HT2 := Lib.hid (siteSum_take (x.right ++ x.wrong) s j hjl)
            generalize s[j] = y at *
            generalize siteSum x.right (s.take j) = p at *
            generalize siteSum (x.right ++ x.wrong) (s.take j) = q at *
            have HB3 := Lib.hid (HB2.out.alloc HB2.out.size (.cells #[.string (bstr y.name), .int .i64 y.weight, .int .i64 y.room] 62))
            have hkv := HKB.out.same (same_below HB3.out) hsza
            have hks := Blk.new wr 62 [.string (bstr y.name), .int .i64 y.weight, .int .i64 y.room]
            have d2 : _ = some (Value.slice A3 x.right.length c3') := hkv.cell 2
            have d3 : _ = some (Value.slice A4 x.wrong.length c4') := hkv.cell 3
            have e0 : _ = some (Value.string (bstr y.name)) := hks.cell 0
            have e1 : _ = some (Value.int .i64 y.weight) := hks.cell 1
            have HR3 := Lib.hid (Rp.below _ HRA.out HB3.out)
            have HW3 := Lib.hid (Rp.below _ HWA.out HB3.out)
            clear hkv hks
            by_cases hm : y.name ∈ x.right
            · rw [if_pos hm] at HT1
              rw [if_pos (List.mem_append_left _ hm)] at HT2
              have HM := Lib.hid hm
              clear hm
              go_wp2_with fail
              refine (contains_any _ x.right y.name _ _ HR3.out).mono ?_
              rintro e w3 ⟨rfl, rfl⟩
              rw [decide_eq_true HM.out]
              go_wp2_with fail
              refine (contains_any _ x.right y.name _ _ HR3.out).mono ?_
              rintro e w3 ⟨rfl, rfl⟩
              rw [decide_eq_true HM.out]
              go_wp2_with fail
              go_roundw
              case rel => exact ⟨j + 1, by omega, by go_num, by rw [HT1.out], by rw [HT2.out], HB3.out⟩
              case measure => simp [intOf]; omega
            · rw [if_neg hm, Int.add_zero] at HT1
              have HM := Lib.hid hm
              go_wp2_with fail
              refine (contains_any _ x.right y.name _ _ HR3.out).mono ?_
              rintro e w3 ⟨rfl, rfl⟩
              rw [decide_eq_false HM.out]
              go_wp2_with fail
              refine (contains_any _ x.right y.name _ _ HR3.out).mono ?_
              rintro e w3 ⟨rfl, rfl⟩
              rw [decide_eq_false HM.out]
              go_wp2_with fail
              refine (contains_any _ x.wrong y.name _ _ HW3.out).mono ?_
              rintro e w3 ⟨rfl, rfl⟩
              by_cases hm2 : y.name ∈ x.wrong
              · rw [if_pos (List.mem_append_right _ hm2)] at HT2
                rw [decide_eq_true hm2]
                clear hm hm2
                go_wp2_with fail
                go_roundw
                case rel => exact ⟨j + 1, by omega, by go_num, by rw [HT1.out], by rw [HT2.out], HB3.out⟩
                case measure => simp [intOf]; omega
              · rw [if_neg (by rw [List.mem_append]; rintro (h | h); exact hm h; exact hm2 h), Int.add_zero] at HT2
                rw [decide_eq_false hm2]
                clear hm hm2
                go_wp2_with fail
                go_roundw
                case rel => exact ⟨j + 1, by omega, by go_num, by rw [HT1.out], by rw [HT2.out], HB3.out⟩
                case measure => simp [intOf]; omega
          · obtain rfl : j = s.length := by omega
            rw [List.take_length] at *
            have r1 := siteSum_range x.right s HWT.out
            have r2 := siteSum_range (x.right ++ x.wrong) s HWT.out
            have hkv := HKB.out.same (same_below HB2.out) hsza
            have d0 : _ = some (Value.string (bstr x.item)) := hkv.cell 0
            have d1 : _ = some (Value.string (bstr x.digest)) := hkv.cell 1
            have d2 : _ = some (Value.slice A3 x.right.length c3') := hkv.cell 2
            have d3 : _ = some (Value.slice A4 x.wrong.length c4') := hkv.cell 3
            have hlt2 : bv < wr.heap.size := by omega
            clear hkv
            generalize siteSum x.right s = p at *
            generalize siteSum (x.right ++ x.wrong) s = q at *
            have HH := Lib.hid (Rp.below _ (Rp.below _ H11.out HBA.out) (HB2.out.mono HBA.out.size))
            have HBQ := Lib.hid (HBA.out.trans (HB2.out.mono (by have := HBA.out.size; omega)))
            have HMANY := Lib.hid (fun (w' : World) (h : (Rp.sl heldRp).ok w' (· < w'.heap.size) [v1] l) => (manyC_any v1 l x.item w' h).mono (R' := fun e w'' => e = .returned (.int .i64 ((x.right.length : Int) + (x.wrong.length : Int))) ∧ Below w'.heap.size w' w'') (by rintro e w'' ⟨rfl, hb⟩; exact ⟨by rw [← HN1.out]; rfl, hb⟩))
            have hw1 : IntKind.i64.wrap ((x.right.length : Int) + (x.wrong.length : Int)) = (x.right.length : Int) + (x.wrong.length : Int) := IntWalk.i64_in _ (by omega)
            have hw2 : IntKind.i64.wrap (2 * p) = 2 * p := IntWalk.i64_in _ (by omega)
            clear HKB HRA HWA HBA H01 H11 HB2 HWA2 HBV HN1
            have n1 : ¬ 2 * p ≤ q ∨ x.digest = [] := by
              by_cases h : x.digest = []
              · exact .inr h
              · have := HN3.out h; exact .inl (by omega)
            clear HN3 r1 r2
            have hdr : x.digest = [] ↔ x.right.length = 0 := HN2.out.trans List.length_eq_zero_iff.symm
            have HH2 := Lib.hid (Rp.sub _ HH.out (T := fun g => g < wr.heap.size) (fun g hg => by have := HBQ.out.size; have hg : g < w1.heap.size := hg; show g < wr.heap.size; omega))
            clear HN2 HH
            generalize x.right.length = R at *
            generalize x.wrong.length = W at *
            generalize x.digest = dg at *
            generalize x.item = it at *
            by_cases hd : dg = []
            · have hr0 := hdr.1 hd
              have hr1 : ((R : Int) == 0) = true := by rw [hr0]; rfl
              have b1 : ((bstr dg).toList == (ByteArray.mk #[]).toList) = true := str_beq (by rw [hd]; rfl)
              have b2 : ((bstr dg).toList != (ByteArray.mk #[]).toList) = false := by rw [bne, b1]; rfl
              have b0 : (bstr dg).toList.isEmpty = true := by rw [bstr_toList, hd]; rfl
              clear n1 hdr hd hr0
              go_wp2_with fail
              refine wp_region_held_drew (S := fun w' => ((w'.cell? ⟨bv, 0, none⟩ = some (.string (bstr it)) ∧ w'.cell? ⟨bv, 1, none⟩ = some (.string (bstr dg))) ∧ (w'.cell? ⟨bv, 2, none⟩ = some (.slice A3 R c3') ∧ w'.cell? ⟨bv, 3, none⟩ = some (.slice A4 W c4'))) ∧ (bv < w'.heap.size ∧ Hid ((Rp.sl heldRp).ok w' (· < w'.heap.size) [v1] l)) ∧ Hid (Below w1.heap.size w1 w')) (by kernel_rfl) ⟨⟨⟨d0, d1⟩, d2, d3⟩, ⟨hlt2, held_drew HH2.out⟩, HBQ.out.drew⟩ (fun hHeld => ?_)
              clear d0 d1 d2 d3 hlt2 HH2 HBQ
              generalize World.drew _ = wd at *
              refine wpAnyH_take (i := 0) (v := ?_) rfl (by kernel_rfl) (by kernel_rfl) (by kernel_rfl) (fun _ _ _ h => h) (Or.inl ⟨by rfl, ?_⟩) (by assumption) ?_
              rotate_left
              · (intro w hSw; (try dsimp only at hSw); go_simp; try with_reducible rfl)
              try simp only [List.getElem_toArray, List.getElem_cons_succ, List.getElem_cons_zero, Act.put, List.setIfInBounds_toArray, List.set_cons_zero, List.set_cons_succ]
              refine wpAnyH_take (i := 1) (v := ?_) rfl (by kernel_rfl) (by kernel_rfl) (by kernel_rfl) (fun _ _ _ h => h) (Or.inl ⟨by rfl, ?_⟩) (by assumption) ?_
              rotate_left
              · (intro w hSw; (try dsimp only at hSw); go_simp; try with_reducible rfl)
              try simp only [List.getElem_toArray, List.getElem_cons_succ, List.getElem_cons_zero, Act.put, List.setIfInBounds_toArray, List.set_cons_zero, List.set_cons_succ]
              refine wpAnyH_take (i := 2) (v := ?_) rfl (by kernel_rfl) (by kernel_rfl) (by kernel_rfl) (fun _ _ _ h => h) (Or.inl ⟨by rfl, ?_⟩) (by assumption) ?_
              rotate_left
              · (intro w hSw; (try dsimp only at hSw); go_simp; try with_reducible rfl)
              try simp only [List.getElem_toArray, List.getElem_cons_succ, List.getElem_cons_zero, Act.put, List.setIfInBounds_toArray, List.set_cons_zero, List.set_cons_succ]
              refine wpAnyH_take (i := 3) (v := ?_) rfl (by kernel_rfl) (by kernel_rfl) (by kernel_rfl) (fun _ _ _ h => h) (Or.inl ⟨by rfl, ?_⟩) (by assumption) ?_
              rotate_left
              · (intro w hSw; (try dsimp only at hSw); go_simp; try with_reducible rfl)
              try simp only [List.getElem_toArray, List.getElem_cons_succ, List.getElem_cons_zero, Act.put, List.setIfInBounds_toArray, List.set_cons_zero, List.set_cons_succ]
              refine wpAnyH_take (i := 4) (v := ?_) rfl (by kernel_rfl) (by kernel_rfl) (by kernel_rfl) (fun _ _ _ h => h) (Or.inl ⟨by rfl, ?_⟩) (by assumption) ?_
              rotate_left
              · (intro w hSw; (try dsimp only at hSw); go_simp; try with_reducible rfl)
              try simp only [List.getElem_toArray, List.getElem_cons_succ, List.getElem_cons_zero, Act.put, List.setIfInBounds_toArray, List.set_cons_zero, List.set_cons_succ]
              refine wpAnyH_take (i := 5) (v := ?_) rfl (by kernel_rfl) (by kernel_rfl) (by kernel_rfl) (fun _ _ _ h => h) (Or.inl ⟨by rfl, ?_⟩) (by assumption) ?_
              rotate_left
              · (intro w hSw; (try dsimp only at hSw); go_simp; try with_reducible rfl)
              try simp only [List.getElem_toArray, List.getElem_cons_succ, List.getElem_cons_zero, Act.put, List.setIfInBounds_toArray, List.set_cons_zero, List.set_cons_succ]
              refine wpAnyH_take (i := 6) (v := ?_) rfl (by kernel_rfl) (by kernel_rfl) (by kernel_rfl) (fun _ _ _ h => h) (Or.inl ⟨by rfl, ?_⟩) (by assumption) ?_
              rotate_left
              · (intro w hSw; (try dsimp only at hSw); go_simp; try with_reducible rfl)
              try simp only [List.getElem_toArray, List.getElem_cons_succ, List.getElem_cons_zero, Act.put, List.setIfInBounds_toArray, List.set_cons_zero, List.set_cons_succ]
              refine wpAnyH_take (i := 7) (v := ?_) rfl (by kernel_rfl) (by kernel_rfl) (by kernel_rfl) (fun _ _ _ h => h) (Or.inl ⟨by rfl, ?_⟩) (by assumption) ?_
              rotate_left
              · (intro w hSw; (try dsimp only at hSw); go_simp; try with_reducible rfl)
              try simp only [List.getElem_toArray, List.getElem_cons_succ, List.getElem_cons_zero, Act.put, List.setIfInBounds_toArray, List.set_cons_zero, List.set_cons_succ]
              refine wpAnyH_take (i := 8) (v := ?_) rfl (by kernel_rfl) (by kernel_rfl) (by kernel_rfl) (fun _ _ _ h => h) (Or.inl ⟨by rfl, ?_⟩) (by assumption) ?_
              rotate_left
              · (intro w hSw; (try dsimp only at hSw); go_simp; try with_reducible rfl)
              try simp only [List.getElem_toArray, List.getElem_cons_succ, List.getElem_cons_zero, Act.put, List.setIfInBounds_toArray, List.set_cons_zero, List.set_cons_succ]
              refine wpAnyH_take (i := 9) (v := ?_) rfl (by kernel_rfl) (by kernel_rfl) (by kernel_rfl) (fun _ _ _ h => h) (Or.inl ⟨by rfl, ?_⟩) (by assumption) ?_
              rotate_left
              · (intro w hSw; (try dsimp only at hSw); go_simp; try with_reducible rfl)
              try simp only [List.getElem_toArray, List.getElem_cons_succ, List.getElem_cons_zero, Act.put, List.setIfInBounds_toArray, List.set_cons_zero, List.set_cons_succ]
              obtain ⟨⟨⟨d0, d1⟩, d2, d3⟩, ⟨hlt2, HH2⟩, HBQ⟩ := hHeld
              refine wpAnyH_ready (rs := [10]) (by kernel_rfl) (by simp) ?_
              refine AllReadyH.cons rfl (fun K hK => ?_) AllReadyH.nil
              rw [if_pos (by rfl)]
              simp only [List.getElem_toArray, List.getElem_cons_succ, List.getElem_cons_zero]
              go_simp
              go_at_call 34
              refine (HMANY.out _ HH2.out).mono ?_
              rintro e w8 ⟨rfl, hb8⟩
              show K _ w8
              refine hK.out _ _ ⟨⟨⟨(hb8.cell hlt2).trans d0, (hb8.cell hlt2).trans d1⟩, (hb8.cell hlt2).trans d2, (hb8.cell hlt2).trans d3⟩, ⟨by have := hb8.size; omega, Rp.ext _ HH2.out hb8⟩, HBQ.out.trans (hb8.mono HBQ.out.size)⟩ (fun hHeld => ?_)
              clear hK K d0 d1 d2 d3 HH2 HBQ hlt2 hb8
              try simp only [List.getElem_toArray, List.getElem_cons_succ, List.getElem_cons_zero, Act.put, List.setIfInBounds_toArray, List.set_cons_zero, List.set_cons_succ]
              refine wpAnyH_take (i := 11) (v := ?_) rfl (by kernel_rfl) (by kernel_rfl) (by kernel_rfl) (fun _ _ _ h => h) (Or.inl ⟨by rfl, ?_⟩) (by assumption) ?_
              rotate_left
              · (intro w hSw; (try dsimp only at hSw); go_simp; try with_reducible rfl)
              try simp only [List.getElem_toArray, List.getElem_cons_succ, List.getElem_cons_zero, Act.put, List.setIfInBounds_toArray, List.set_cons_zero, List.set_cons_succ]
              refine wpAnyH_take (i := 12) (v := ?_) rfl (by kernel_rfl) (by kernel_rfl) (by kernel_rfl) (fun _ _ _ h => h) (Or.inl ⟨by rfl, ?_⟩) (by assumption) ?_
              rotate_left
              · (intro w hSw; (try dsimp only at hSw); go_simp; try with_reducible rfl)
              try simp only [List.getElem_toArray, List.getElem_cons_succ, List.getElem_cons_zero, Act.put, List.setIfInBounds_toArray, List.set_cons_zero, List.set_cons_succ]
              refine wpAnyH_take (i := 13) (v := ?_) rfl (by kernel_rfl) (by kernel_rfl) (by kernel_rfl) (fun _ _ _ h => h) (Or.inl ⟨by rfl, ?_⟩) (by assumption) ?_
              rotate_left
              · (intro w hSw; (try dsimp only at hSw); go_simp; try with_reducible rfl)
              try simp only [List.getElem_toArray, List.getElem_cons_succ, List.getElem_cons_zero, Act.put, List.setIfInBounds_toArray, List.set_cons_zero, List.set_cons_succ]
              refine wpAnyH_take (i := 14) (v := ?_) rfl (by kernel_rfl) (by kernel_rfl) (by kernel_rfl) (fun _ _ _ h => h) (Or.inl ⟨by rfl, ?_⟩) (by assumption) ?_
              rotate_left
              · (intro w hSw; (try dsimp only at hSw); go_simp; try with_reducible rfl)
              try simp only [List.getElem_toArray, List.getElem_cons_succ, List.getElem_cons_zero, Act.put, List.setIfInBounds_toArray, List.set_cons_zero, List.set_cons_succ]
              refine wpAnyH_take (i := 15) (v := ?_) rfl (by kernel_rfl) (by kernel_rfl) (by kernel_rfl) (fun _ _ _ h => h) (Or.inl ⟨by rfl, ?_⟩) (by assumption) ?_
              rotate_left
              · (intro w hSw; (try dsimp only at hSw); go_simp; try with_reducible rfl)
              try simp only [List.getElem_toArray, List.getElem_cons_succ, List.getElem_cons_zero, Act.put, List.setIfInBounds_toArray, List.set_cons_zero, List.set_cons_succ]
              refine wpAnyH_take (i := 16) (v := ?_) rfl (by kernel_rfl) (by kernel_rfl) (by kernel_rfl) (fun _ _ _ h => h) (Or.inl ⟨by rfl, ?_⟩) (by assumption) ?_
              rotate_left
              · (intro w hSw; (try dsimp only at hSw); go_simp; try with_reducible rfl)
              try simp only [List.getElem_toArray, List.getElem_cons_succ, List.getElem_cons_zero, Act.put, List.setIfInBounds_toArray, List.set_cons_zero, List.set_cons_succ]
              refine wpAnyH_take (i := 17) (v := ?_) rfl (by kernel_rfl) (by kernel_rfl) (by kernel_rfl) (fun _ _ _ h => h) (Or.inl ⟨by rfl, ?_⟩) (by assumption) ?_
              rotate_left
              · (intro w hSw; (try dsimp only at hSw); go_simp; try with_reducible rfl)
              try simp only [List.getElem_toArray, List.getElem_cons_succ, List.getElem_cons_zero, Act.put, List.setIfInBounds_toArray, List.set_cons_zero, List.set_cons_succ]
              refine wpAnyH_take (i := 18) (v := ?_) rfl (by kernel_rfl) (by kernel_rfl) (by kernel_rfl) (fun _ _ _ h => h) (Or.inl ⟨by rfl, ?_⟩) (by assumption) ?_
              rotate_left
              · (intro w hSw; (try dsimp only at hSw); go_simp; try with_reducible rfl)
              try simp only [List.getElem_toArray, List.getElem_cons_succ, List.getElem_cons_zero, Act.put, List.setIfInBounds_toArray, List.set_cons_zero, List.set_cons_succ]
              refine wpAnyH_take (i := 19) (v := ?_) rfl (by kernel_rfl) (by kernel_rfl) (by kernel_rfl) (fun _ _ _ h => h) (Or.inl ⟨by rfl, ?_⟩) (by assumption) ?_
              rotate_left
              · (intro w hSw; (try dsimp only at hSw); go_simp; try with_reducible rfl)
              try simp only [List.getElem_toArray, List.getElem_cons_succ, List.getElem_cons_zero, Act.put, List.setIfInBounds_toArray, List.set_cons_zero, List.set_cons_succ]
              refine wpAnyH_take (i := 20) (v := ?_) rfl (by kernel_rfl) (by kernel_rfl) (by kernel_rfl) (fun _ _ _ h => h) (Or.inl ⟨by rfl, ?_⟩) (by assumption) ?_
              rotate_left
              · (intro w hSw; (try dsimp only at hSw); go_simp; try with_reducible rfl)
              try simp only [List.getElem_toArray, List.getElem_cons_succ, List.getElem_cons_zero, Act.put, List.setIfInBounds_toArray, List.set_cons_zero, List.set_cons_succ]
              refine wpAnyH_take (i := 21) (v := ?_) rfl (by kernel_rfl) (by kernel_rfl) (by kernel_rfl) (fun _ _ _ h => h) (Or.inl ⟨by rfl, ?_⟩) (by assumption) ?_
              rotate_left
              · (intro w hSw; (try dsimp only at hSw); go_simp; try with_reducible rfl)
              try simp only [List.getElem_toArray, List.getElem_cons_succ, List.getElem_cons_zero, Act.put, List.setIfInBounds_toArray, List.set_cons_zero, List.set_cons_succ]
              refine wpAnyH_take (i := 22) (v := ?_) rfl (by kernel_rfl) (by kernel_rfl) (by kernel_rfl) (fun _ _ _ h => h) (Or.inl ⟨by rfl, ?_⟩) (by assumption) ?_
              rotate_left
              · (intro w hSw; (try dsimp only at hSw); go_simp; try with_reducible rfl)
              try simp only [List.getElem_toArray, List.getElem_cons_succ, List.getElem_cons_zero, Act.put, List.setIfInBounds_toArray, List.set_cons_zero, List.set_cons_succ]
              refine wpAnyH_take (i := 23) (v := ?_) rfl (by kernel_rfl) (by kernel_rfl) (by kernel_rfl) (fun _ _ _ h => h) (Or.inl ⟨by rfl, ?_⟩) (by assumption) ?_
              rotate_left
              · (intro w hSw; (try dsimp only at hSw); go_simp; try with_reducible rfl)
              try simp only [List.getElem_toArray, List.getElem_cons_succ, List.getElem_cons_zero, Act.put, List.setIfInBounds_toArray, List.set_cons_zero, List.set_cons_succ]
              refine wpAnyH_take (i := 24) (v := ?_) rfl (by kernel_rfl) (by kernel_rfl) (by kernel_rfl) (fun _ _ _ h => h) (Or.inl ⟨by rfl, ?_⟩) (by assumption) ?_
              rotate_left
              · (intro w hSw; (try dsimp only at hSw); go_simp; try with_reducible rfl)
              try simp only [List.getElem_toArray, List.getElem_cons_succ, List.getElem_cons_zero, Act.put, List.setIfInBounds_toArray, List.set_cons_zero, List.set_cons_succ]
              refine wpAnyH_take (i := 25) (v := ?_) rfl (by kernel_rfl) (by kernel_rfl) (by kernel_rfl) (fun _ _ _ h => h) (Or.inl ⟨by rfl, ?_⟩) (by assumption) ?_
              rotate_left
              · (intro w hSw; (try dsimp only at hSw); go_simp; try with_reducible rfl)
              try simp only [List.getElem_toArray, List.getElem_cons_succ, List.getElem_cons_zero, Act.put, List.setIfInBounds_toArray, List.set_cons_zero, List.set_cons_succ]
              refine wpAnyH_take (i := 26) (v := ?_) rfl (by kernel_rfl) (by kernel_rfl) (by kernel_rfl) (fun _ _ _ h => h) (Or.inl ⟨by rfl, ?_⟩) (by assumption) ?_
              rotate_left
              · (intro w hSw; (try dsimp only at hSw); go_simp; try with_reducible rfl)
              try simp only [List.getElem_toArray, List.getElem_cons_succ, List.getElem_cons_zero, Act.put, List.setIfInBounds_toArray, List.set_cons_zero, List.set_cons_succ]
              refine wpAnyH_take (i := 27) (v := undef) rfl (by kernel_rfl) (by kernel_rfl) (by kernel_rfl) (fun _ _ _ h => h) (Or.inr ⟨by rfl, rfl⟩) (by assumption) ?_
              try simp only [List.getElem_toArray, List.getElem_cons_succ, List.getElem_cons_zero, Act.put, List.setIfInBounds_toArray, List.set_cons_zero, List.set_cons_succ]
              refine wpAnyH_take (i := 28) (v := undef) rfl (by kernel_rfl) (by kernel_rfl) (by kernel_rfl) (fun _ _ _ h => h) (Or.inr ⟨by rfl, rfl⟩) (by assumption) ?_
              try simp only [List.getElem_toArray, List.getElem_cons_succ, List.getElem_cons_zero, Act.put, List.setIfInBounds_toArray, List.set_cons_zero, List.set_cons_succ]
              refine wpAnyH_take (i := 29) (v := undef) rfl (by kernel_rfl) (by kernel_rfl) (by kernel_rfl) (fun _ _ _ h => h) (Or.inr ⟨by rfl, rfl⟩) (by assumption) ?_
              try simp only [List.getElem_toArray, List.getElem_cons_succ, List.getElem_cons_zero, Act.put, List.setIfInBounds_toArray, List.set_cons_zero, List.set_cons_succ]
              refine wpAnyH_take (i := 30) (v := undef) rfl (by kernel_rfl) (by kernel_rfl) (by kernel_rfl) (fun _ _ _ h => h) (Or.inr ⟨by rfl, rfl⟩) (by assumption) ?_
              try simp only [List.getElem_toArray, List.getElem_cons_succ, List.getElem_cons_zero, Act.put, List.setIfInBounds_toArray, List.set_cons_zero, List.set_cons_succ]
              refine wpAnyH_take (i := 31) (v := ?_) rfl (by kernel_rfl) (by kernel_rfl) (by kernel_rfl) (fun _ _ _ h => h) (Or.inl ⟨by rfl, ?_⟩) (by assumption) ?_
              rotate_left
              · (intro w hSw; (try dsimp only at hSw); go_simp; try with_reducible rfl)
              try simp only [List.getElem_toArray, List.getElem_cons_succ, List.getElem_cons_zero, Act.put, List.setIfInBounds_toArray, List.set_cons_zero, List.set_cons_succ]
              refine wpAnyH_take (i := 32) (v := ?_) rfl (by kernel_rfl) (by kernel_rfl) (by kernel_rfl) (fun _ _ _ h => h) (Or.inl ⟨by rfl, ?_⟩) (by assumption) ?_
              rotate_left
              · (intro w hSw; (try dsimp only at hSw); go_simp; try with_reducible rfl)
              try simp only [List.getElem_toArray, List.getElem_cons_succ, List.getElem_cons_zero, Act.put, List.setIfInBounds_toArray, List.set_cons_zero, List.set_cons_succ]
              refine wpAnyH_done (by kernel_rfl) ?_ _
              have HB8 := hHeld.2.2
              clear hHeld
              go_wp2_with fail
              go_roundw
              case rel => exact ⟨k + 1, by omega, by go_num, HB8.out⟩
              case measure => simp [intOf]; omega
            · have hr0 : R ≠ 0 := fun e => hd (hdr.2 e)
              have hr1 : ((R : Int) == 0) = false := by rw [beq_eq_false_iff_ne]; omega
              have n2 : ¬ 2 * p ≤ q := n1.resolve_right hd
              have b1 : ((bstr dg).toList == (ByteArray.mk #[]).toList) = false := str_bne (fun e => hd (bstr_inj (k := []) e))
              have b2 : ((bstr dg).toList != (ByteArray.mk #[]).toList) = true := by rw [bne, b1]; rfl
              have b0 : (bstr dg).toList.isEmpty = false := by rw [bstr_toList]; cases dg; exact absurd rfl hd; rfl
              clear n1 hdr hd
              go_wp2_with fail
              go_region_held3 (fun w' => (w'.cell? ⟨bv, 0, none⟩ = some (.string (bstr it)) ∧ w'.cell? ⟨bv, 1, none⟩ = some (.string (bstr dg))) ∧ (w'.cell? ⟨bv, 2, none⟩ = some (.slice A3 R c3') ∧ w'.cell? ⟨bv, 3, none⟩ = some (.slice A4 W c4'))) (first | exact ⟨⟨d0, d1⟩, d2, d3⟩ | (refine ⟨⟨?_, ?_⟩, ?_, ?_⟩ <;> repeat' (first | (with_reducible exact d0) | (with_reducible exact d1) | (with_reducible exact d2) | (with_reducible exact d3) | (with_reducible refine cell_drew1 ?_)))) (first
                | (go_at_call 34; with_reducible refine (HMANY.out _ (by repeat' (first | (with_reducible exact HH2.out) | (with_reducible refine held_drew ?_)))).mono ?_; rintro e w8 ⟨rfl, hb8⟩; have HB8 : Hid (Below w1.heap.size w1 w8) := Lib.hid (Below.trans (by repeat' (first | (with_reducible exact HBQ.out) | (with_reducible refine Below.drew ?_))) (hb8.mono (by have := HBQ.out.size; simpa using this))); have d0 : w8.cell? ⟨bv, 0, none⟩ = some (.string (bstr it)) := (hb8.cell (by simpa using hlt2)).trans (by repeat' (first | (with_reducible exact d0) | (with_reducible refine cell_drew1 ?_))); have d1 : w8.cell? ⟨bv, 1, none⟩ = some (.string (bstr dg)) := (hb8.cell (by simpa using hlt2)).trans (by repeat' (first | (with_reducible exact d1) | (with_reducible refine cell_drew1 ?_))); have d2 : w8.cell? ⟨bv, 2, none⟩ = some (.slice A3 R c3') := (hb8.cell (by simpa using hlt2)).trans (by repeat' (first | (with_reducible exact d2) | (with_reducible refine cell_drew1 ?_))); have d3 : w8.cell? ⟨bv, 3, none⟩ = some (.slice A4 W c4') := (hb8.cell (by simpa using hlt2)).trans (by repeat' (first | (with_reducible exact d3) | (with_reducible refine cell_drew1 ?_))); clear hb8))
              all_goals
                clear d0 d1 d2 d3
                go_wp2_with fail
                go_roundw
                case rel =>
                  refine ⟨k + 1, by omega, by go_num, ?_⟩
                  repeat' (first | (with_reducible exact HB8) | (with_reducible exact HB8.out) | (with_reducible refine Below.drew ?_))
                case measure => simp [intOf]; omega
      · have HBX := Lib.hid (HB1.out.trans (HB.out.mono HB1.out.size))
        go_wp2_with fail
        refine (awake_any _).mono ?_
        rintro e w6 ⟨rfl, hb6⟩
        have HB6 := Lib.hid (ext_trans HBX.out hb6)
        clear hb6
        go_wp2_with fail
        go_ret
        exact ⟨rfl, HB6.out⟩
  · rw [votesTopL, if_neg hf] at HX
    obtain ⟨A, c, rfl, _⟩ := Rp.sl_open HX.out
    generalize copiesFault s l = f at *
    go_wp2_with fail
    refine (awake_any _).mono ?_
    rintro e w6 ⟨rfl, hb6⟩
    have HB6 := Lib.hid (ext_trans HB1.out hb6)
    clear hb6
    go_wp2_with fail
    go_ret
    exact ⟨rfl, HB6.out⟩
end Go.Proofs.YtnnoolemmnailaaDoor
