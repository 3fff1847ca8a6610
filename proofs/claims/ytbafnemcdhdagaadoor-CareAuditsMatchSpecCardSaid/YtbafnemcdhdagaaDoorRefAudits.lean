/-
  'Audits' of the reference.
-/
import Derived.Test.YtbafnemcdhdagaaDoorProg
import Derived.Test.YtbafnemcdhdagaaDoorAudits
import Derived.Test.YtbafnemcdhdagaaDoorCopies
import Derived.Shelf.SlSortCmp.QuietGrown
namespace Go.Proofs.YtbafnemcdhdagaaDoor
open Go.RowKit Go.Sort
set_option linter.unusedVariables false
set_option linter.unusedSimpArgs false

theorem rank_gr (x : Aud) (ev dy : Int) (w : World) (h1 : 1 ≤ ev) (h2 : ev ≤ 3000000) (h3 : 0 ≤ dy) (h4 : dy ≤ 3000000) (h5 : x.last ≤ 3000000) :
    Calls Tryd.prog 64 #[.agg #[.string (bstr x.item), .int .i64 x.last, .bool x.urg], .int .i64 ev, .int .i64 dy] w fun e w' => e = .returned (.int .i64 (rankA x ev dy)) ∧ ∃ q os', w' = grow (w.drewN q) os' :=
  (rank_any x ev dy w h1 h2 h3 h4 h5).mono fun e w' ⟨h, h'⟩ => ⟨h, 0, #[.cells (audCells x).toArray 103], by rw [h', alloc_eq_grow]; rfl⟩
/-- The place of the next one. -/
theorem due_put {ev dy : Int} {l D : List Aud} {x : Aud} {at_ : Nat} (hD : DueA ev dy l D) (hx : ∀ y ∈ l, slt y.item x.item = true) (hd : delA x ev dy = false) (ha : at_ ≤ D.length) (hup : ∀ j (hj : j < D.length), at_ ≤ j → cmpA x D[j] ev dy < 0) (hlo : 0 < at_ → ¬ cmpA x (D.getD (at_ - 1) default) ev dy < 0) :
    DueA ev dy (l ++ [x]) (D.take at_ ++ x :: D.drop at_) := by
  obtain ⟨hp, hs⟩ := hD
  refine ⟨?_, ?_⟩
  · rw [keepA_snoc, if_neg (by rw [hd]; decide)]
    refine (List.perm_middle).trans ?_
    rw [List.take_append_drop]
    exact (hp.cons x).trans (List.perm_append_singleton x _).symm
  · have hs1 : (D.take at_).Pairwise (fun x y => ltA ev dy x y = true) := hs.sublist (List.take_sublist _ _)
    have hs2 : (D.drop at_).Pairwise (fun x y => ltA ev dy x y = true) := hs.sublist (List.drop_sublist _ _)
    have hup2 : ∀ y ∈ D.drop at_, ltA ev dy x y = true := fun y hy => by
      obtain ⟨j, hj, rfl⟩ := List.mem_iff_getElem.1 hy
      rw [List.length_drop] at hj
      rw [List.getElem_drop]
      unfold ltA
      rw [decide_eq_true (hup (at_ + j) (by omega) (by omega)), Bool.true_or]
    have hlo2 : ∀ y ∈ D.take at_, ltA ev dy y x = true := fun y hy => by
      obtain ⟨j, hj, rfl⟩ := List.mem_iff_getElem.1 hy
      rw [List.length_take] at hj
      rw [List.getElem_take]
      have hlast : ltA ev dy (D[at_ - 1]'(by omega)) x = true := by
        have h0 := hlo (by omega)
        rw [getD_at _ _ (show at_ - 1 < D.length by omega)] at h0
        have hm : (D[at_ - 1]'(by omega)) ∈ l := (List.mem_filter.1 (hp.mem_iff.1 (List.getElem_mem (show at_ - 1 < D.length by omega)))).1
        unfold ltA
        rw [decide_eq_false h0, hx _ hm]
        simp
      rcases Nat.lt_or_eq_of_le (show j ≤ at_ - 1 by omega) with h | h
      · exact (swoA ev dy).trans _ _ _ ((List.pairwise_iff_getElem.1 hs) j (at_ - 1) (by omega) (by omega) h) hlast
      · have : D[j]'(by omega) = D[at_ - 1]'(by omega) := by congr 1
        rw [this]; exact hlast
    refine List.pairwise_append.2 ⟨hs1, List.pairwise_cons.2 ⟨hup2, hs2⟩, fun a ha b hb => ?_⟩
    rcases List.mem_cons.1 hb with rfl | hb
    · exact hlo2 a ha
    · exact (swoA ev dy).trans _ _ _ (hlo2 a ha) (hup2 b hb)
theorem due_flat (D : List Aud) (x : Aud) (a : Nat) (ha : a ≤ D.length) : ((D.flatMap audCells).take (a * 3) ++ audCells x ++ (D.flatMap audCells).drop (a * 3)) = (D.take a ++ x :: D.drop a).flatMap audCells := by
  rw [List.flatMap_append, List.flatMap_cons]
  have e1 : (D.flatMap audCells) = (D.take a).flatMap audCells ++ (D.drop a).flatMap audCells := by rw [← List.flatMap_append, List.take_append_drop]
  have hl : ((D.take a).flatMap audCells).length = a * 3 := by rw [aud_flat_len, List.length_take]; omega
  rw [e1, List.take_left' hl, List.drop_left' hl, List.append_assoc]
theorem rank_cmp {x y : Aud} {ev dy : Int} (hx : delA x ev dy = false) (hy : delA y ev dy = false) : (cmpA x y ev dy < 0 ↔ rankA x ev dy < rankA y ev dy ∨ (rankA x ev dy = rankA y ev dy ∧ x.last < y.last)) := by
  have h1 : clsA x ev dy ≠ 3 := of_decide_eq_false hx
  have h2 : clsA y ev dy ≠ 3 := of_decide_eq_false hy
  rw [cmpA_lt, rankA, rankA, if_neg h1, if_neg h2]
  omega
theorem rank_zero {x : Aud} {ev dy : Int} : rankA x ev dy = 0 ↔ delA x ev dy = true := by
  unfold rankA delA
  have := clsA_le x ev dy
  rw [decide_eq_true_iff]
  split
  · simp [*]
  · omega
theorem due_skip {ev dy : Int} {l D : List Aud} {x : Aud} (hD : DueA ev dy l D) (hd : delA x ev dy = true) : DueA ev dy (l ++ [x]) D := by
  refine ⟨?_, hD.2⟩
  rw [keepA_snoc, if_pos hd]
  exact hD.1
theorem due_mem {ev dy : Int} {l D : List Aud} (hD : DueA ev dy l D) {y : Aud} (hy : y ∈ D) : y ∈ l ∧ delA y ev dy = false := by
  have := List.mem_filter.1 (hD.1.mem_iff.1 hy)
  exact ⟨this.1, by simpa using this.2⟩
set_option maxRecDepth 100000 in
set_option maxHeartbeats 8000000 in
theorem refAudits_any (v : Value) (l : List Aud) (ev most dy : Int) (w : World) (h : (Rp.sl audRp).ok w (· < w.heap.size) [v] l) :
    Calls Tryd.prog 20 #[v, .int .i64 ev, .int .i64 most, .int .i64 dy] w (AudPost l ev most dy w) := by
  obtain ⟨A, c, rfl, hl, hc, _⟩ := Rp.sl_open h
  unfold maxLen at hc
  by_cases h5 : 3000 < l.length
  · have HP := Lib.hid (AudPost.bad (w := w) (l := l) (ev := ev) (most := most) (dy := dy) (show audFault l ev most dy = 2 from if_pos h5) (by decide) (Below.refl _ _))
    have h5' : (3000 : Int) < (l.length : Int) := by omega
    clear h
    go_enter Tryd.func20, Tryd.ntmps20
    go_wp2_with fail
    go_ret2
    exact HP.out
  have h5' : ¬ (3000 : Int) < (l.length : Int) := by omega
  have H0 := Lib.hid h
  clear h
  go_enter Tryd.func20, Tryd.ntmps20
  go_wp2_with fail
  go_loopw [25] (fun vi wr => ∃ k : Nat, k ≤ l.length ∧ vi = .int .i64 k ∧ Hid (∀ j, j < k → audF l j = 0) ∧ Hid (Below w.heap.size w wr)) (fun vi _ => l.length - (intOf vi).toNat)
  case atStart => exact ⟨0, by omega, rfl, (fun j hj => absurd hj (by omega)), Below.refl _ _⟩
  case round =>
    obtain ⟨k, hk, rfl, HS, HB⟩ := hrel
    by_cases hlt : k < l.length
    · obtain ⟨ad, c', e1, hadb, c0, c1, c2, hz1, hz2⟩ := aud_at (Rp.below _ H0.out HB.out) hlt
      cases e1
      have F1 := Lib.hid (fun h => audFault_at (ev := ev) (most := most) (dy := dy) h5 hlt HS.out (audF_1 hlt h) (by decide))
      have F2 := Lib.hid (fun h h0 h2 => audFault_at (ev := ev) (most := most) (dy := dy) h5 hlt HS.out (audF_2 hlt h h0 h2) (by decide))
      have F3 := Lib.hid (fun h h2 h3 => audFault_at (ev := ev) (most := most) (dy := dy) h5 hlt HS.out (audF_3 hlt h h2 h3) (by decide))
      have F4 := Lib.hid (fun h h2 h3 => firstF_step HS.out (audF_4 hlt h h2 h3))
      clear hadb
      generalize l[k] = x at *
      have HHB := Lib.hid (HB.out.alloc HB.out.size (.cells #[.string (bstr x.item), .int .i64 x.last, .bool x.urg] 103))
      have HKB := Lib.hid (Blk.new wr 103 [.string (bstr x.item), .int .i64 x.last, .bool x.urg])
      have k0 : _ = some (Value.string (bstr x.item)) := HKB.out.cell 0
      have hlt1 : wr.heap.size < (wr.alloc (.cells #[.string (bstr x.item), .int .i64 x.last, .bool x.urg] 103)).heap.size := by simp
      go_wp2_with fail
      refine (refIsNameB_any x.item _ hz1).mono ?_
      rintro e w5 ⟨rfl, hb5⟩
      have HB5 := Lib.hid (HHB.out.trans (hb5.mono HHB.out.size))
      have hk5 := HKB.out.same (same_below hb5) hlt1
      have d0 : w5.cell? ⟨wr.heap.size, 0, none⟩ = some (Value.string (bstr x.item)) := hk5.cell 0
      have D1 : Hid (w5.cell? ⟨wr.heap.size, 1, none⟩ = some (Value.int .i64 x.last)) := Lib.hid (hk5.cell 1)
      clear hb5 hk5 k0 HKB HHB hlt1 c0 c1 c2
      cases hnm : isNm x.item with
      | false =>
        have HF := F1.out hnm
        clear F1 F2 F3 F4 hnm
        have HP := Lib.hid (AudPost.bad (w := w) HF (by decide) (HB5.out))
        go_wp2_with fail
        go_ret2
        exact HP.out
      | true =>
        have HN := Lib.hid hnm
        clear hnm F1
        by_cases hk0 : k = 0
        · have F3b := Lib.hid (fun h => F3.out HN.out (fun h => absurd h.1 (by omega)) h)
          have F4b := Lib.hid (fun h => F4.out HN.out (fun h => absurd h.1 (by omega)) h)
          clear F2 F3 F4
          rename Hid (_ → audFault _ _ _ _ = 1) => F3
          rename Hid (_ → ∀ _, _) => F4
          have hk0' : ¬ (0 : Int) < (k : Int) := by omega
          have hk0n : ¬ 0 < k := by omega
          clear hk0
          go_wp2_with fail
          go_quiet (fail)
          obtain ⟨w6, hw6⟩ : ∃ w6, w6 = w5.drewN nq := ⟨_, rfl⟩
          have HB6 : Hid (Below w.heap.size w w6) := Lib.hid (by rw [hw6]; exact below_drewN HB5.out nq)
          have q1 : w6.cell? ⟨wr.heap.size, 1, none⟩ = some (.int .i64 x.last) := by rw [hw6]; exact D1.out
          rw [← hw6]
          clear hw6 d0
          go_wp2_with fail
          refine (rwithin_any _ _ _ _).mono ?_
          rintro e w7 ⟨rfl, rfl⟩
          cases hwi : withinB x.last (-1) 3000000 with
          | false =>
            have HF := F3.out hwi
            clear F3 F4 hwi
            have HP := Lib.hid (AudPost.bad (w := w) HF (by decide) (HB6.out))
            go_wp2_with fail
            go_ret2
            exact HP.out
          | true =>
            have F5 := Lib.hid (F4.out hwi)
            clear F3 F4 hwi
            go_wp2_with fail
            go_roundw
            case rel => exact ⟨k + 1, by omega, by go_num, F5.out, HB6.out⟩
            case measure => simp [intOf]; omega
        · obtain ⟨m, rfl⟩ : ∃ m, k = m + 1 := ⟨k - 1, by omega⟩
          have hm : m < l.length := by omega
          obtain ⟨ad', c2, e1, _, p0, _, _, hy1, _⟩ := aud_at (Rp.below _ H0.out HB5.out) hm
          cases e1
          simp only [Nat.add_sub_cancel] at F2 F3 F4
          have F2b : sle x.item l[m].item = true → audFault l ev most dy = 8 := fun h => F2.out HN.out (by omega) h
          have F3b : sle x.item l[m].item = false → withinB x.last (-1) 3000000 = false → audFault l ev most dy = 1 := fun h h2 => F3.out HN.out (fun e => by rw [h] at e; exact absurd e.2 (by decide)) h2
          have F4b : sle x.item l[m].item = false → withinB x.last (-1) 3000000 = true → ∀ j, j < m + 1 + 1 → audF l j = 0 := fun h h2 => F4.out HN.out (fun e => by rw [h] at e; exact absurd e.2 (by decide)) h2
          clear F2 F3 F4
          generalize l[m] = y at *
          have F2 := Lib.hid F2b
          have G3 := Lib.hid F3b
          have G4 := Lib.hid F4b
          clear F2b F3b F4b
          go_wp2_with fail
          have hk0' : (0 : Int) < (m : Int) + 1 := by omega
          have hkm : IntKind.i64.wrap ((m : Int) + 1 - 1) = m := by rw [Int.add_sub_cancel]; exact IntWalk.i64_in _ (by omega)
          have hm0 : (0 : Int) ≤ (m : Int) := by omega
          have hml : (m : Int) < (l.length : Int) := by omega
          go_quiet (fail)
          rw [sle_eq]
          clear hk0' hkm hm0 hml p0 hk0
          cases hs : sle x.item y.item with
          | true =>
            have HF := F2.out hs
            clear F2 G3 G4 hs
            have HP := Lib.hid (AudPost.bad (w := w) HF (by decide) (below_drewN HB5.out nq))
            go_wp2_with fail
            go_ret2
            exact HP.out
          | false =>
            have F3 := Lib.hid (G3.out hs)
            have F4 := Lib.hid (G4.out hs)
            clear F2 G3 G4 hs
            obtain ⟨w6, hw6⟩ : ∃ w6, w6 = w5.drewN nq := ⟨_, rfl⟩
            have HB6 : Hid (Below w.heap.size w w6) := Lib.hid (by rw [hw6]; exact below_drewN HB5.out nq)
            have q1 : w6.cell? ⟨wr.heap.size, 1, none⟩ = some (.int .i64 x.last) := by rw [hw6]; exact D1.out
            rw [← hw6]
            clear hw6 d0
            go_wp2_with fail
            refine (rwithin_any _ _ _ _).mono ?_
            rintro e w7 ⟨rfl, rfl⟩
            cases hwi : withinB x.last (-1) 3000000 with
            | false =>
              have HF := F3.out hwi
              clear F3 F4 hwi
              have HP := Lib.hid (AudPost.bad (w := w) HF (by decide) (HB6.out))
              go_wp2_with fail
              go_ret2
              exact HP.out
            | true =>
              have F5 := Lib.hid (F4.out hwi)
              clear F3 F4 hwi
              go_wp2_with fail
              go_roundw
              case rel => exact ⟨m + 1 + 1, by omega, by go_num, F5.out, HB6.out⟩
              case measure => simp [intOf]; omega
    · obtain rfl : k = l.length := by omega
      go_wp2_with fail
      refine (rwithin_any _ _ _ _).mono ?_
      rintro e w3 ⟨rfl, rfl⟩
      cases a1 : withinB ev 1 3000000 with
      | false =>
        have HF := audFault_1 (ev := ev) (most := most) (dy := dy) h5 HS.out (.inl a1)
        have HP := Lib.hid (AudPost.bad (w := w) HF (by decide) (HB.out))
        go_wp2_with fail
        go_ret2
        exact HP.out
      | true =>
      have A1 := Lib.hid a1
      clear a1
      go_wp2_with fail
      refine (rwithin_any _ _ _ _).mono ?_
      rintro e w3 ⟨rfl, rfl⟩
      cases a2 : withinB most 0 3000 with
      | false =>
        have HF := audFault_1 (ev := ev) (most := most) (dy := dy) h5 HS.out (.inr (.inl a2))
        have HP := Lib.hid (AudPost.bad (w := w) HF (by decide) (HB.out))
        go_wp2_with fail
        go_ret2
        exact HP.out
      | true =>
      have A2 := Lib.hid a2
      clear a2
      go_wp2_with fail
      refine (rwithin_any _ _ _ _).mono ?_
      rintro e w3 ⟨rfl, rfl⟩
      cases a3 : withinB dy 0 3000000 with
      | false =>
        have HF := audFault_1 (ev := ev) (most := most) (dy := dy) h5 HS.out (.inr (.inr a3))
        have HP := Lib.hid (AudPost.bad (w := w) HF (by decide) (HB.out))
        go_wp2_with fail
        go_ret2
        exact HP.out
      | true =>
      have HF := Lib.hid (audFault_2 (ev := ev) (most := most) (dy := dy) h5 HS.out A1.out A2.out a3)
      obtain ⟨b1, b2⟩ := of_decide_eq_true A1.out
      obtain ⟨b3, b4⟩ := of_decide_eq_true A2.out
      obtain ⟨b5, b6⟩ := of_decide_eq_true a3
      have HSRT := Lib.hid (auds_sorted HS.out)
      have HLA := Lib.hid (auds_last HS.out)
      clear HS a3
      go_wp2_with fail
      rename World => w1
      have H1 := Lib.hid (Rp.ext _ H0.out HB.out)
      go_loopw [12, 70] (fun vd vi wr => ∃ (k : Nat) (D : List Aud), k ≤ l.length ∧ vi = .int .i64 k ∧ Hid (lateA dy (l.take k) = false) ∧ Hid (DueA ev dy (l.take k) D) ∧ Hid (wr.ownsRow w1.heap.size 103 3 vd D.length (D.flatMap audCells)) ∧ Hid (Below w1.heap.size w1 wr)) (fun _ vi _ => l.length - (intOf vi).toNat)
      case atStart => exact ⟨0, [], by omega, rfl, rfl, ⟨List.Perm.refl _, List.Pairwise.nil⟩, World.ownsRow_nil _ _ _ _, Below.refl _ _⟩
      case round =>
        obtain ⟨k, D, hk, rfl, HLT, HD, HO, HX⟩ := hrel
        obtain ⟨wo, rfl⟩ : ∃ wo : World, wo = wr := ⟨_, rfl⟩
        have hDl : D.length ≤ k := by
          have h1 := HD.out.1.length_eq
          have h2 := keepA_len ev dy (l.take k)
          rw [List.length_take] at h2
          omega
        by_cases hlt : k < l.length
        · obtain ⟨ad, c', e1, hadb, c0, c1, c2, hz1, hz2⟩ := aud_at (Rp.below _ H1.out HX.out) hlt
          cases e1
          have HLX := Lib.hid (HLA.out _ (List.getElem_mem hlt))
          have HST : Hid (l.take (k + 1) = l.take k ++ [l[k]]) := Lib.hid (List.take_succ_eq_append_getElem hlt)
          have HLE : Hid (∀ y ∈ l.take k, slt y.item l[k].item = true) := Lib.hid (fun y hy => by
            obtain ⟨j, hj, rfl⟩ := List.mem_iff_getElem.1 hy
            rw [List.length_take] at hj
            rw [List.getElem_take]
            exact (List.pairwise_iff_getElem.1 HSRT.out) j k (by omega) hlt (by omega))
          have HMEM : Hid (l[k] ∈ l) := Lib.hid (List.getElem_mem hlt)
          clear hadb
          generalize l[k] = x at *
          have HXB := Lib.hid (HX.out.alloc HX.out.size (.cells #[.string (bstr x.item), .int .i64 x.last, .bool x.urg] 103))
          have HKB := Lib.hid (Blk.new wo 103 [.string (bstr x.item), .int .i64 x.last, .bool x.urg])
          have hbw := (Below.refl wo.heap.size wo).alloc (Nat.le_refl _) (.cells #[.string (bstr x.item), .int .i64 x.last, .bool x.urg] 103)
          have HOA := Lib.hid (own_below HO.out hbw)
          have k0 : _ = some (Value.string (bstr x.item)) := HKB.out.cell 0
          have k1 : _ = some (Value.int .i64 x.last) := HKB.out.cell 1
          have k2 : _ = some (Value.bool x.urg) := HKB.out.cell 2
          have hlt1 : wo.heap.size < (wo.alloc (.cells #[.string (bstr x.item), .int .i64 x.last, .bool x.urg] 103)).heap.size := by simp
          have hx3 := HLX.out.2.1
          clear hbw HO HX
          by_cases hld : dy < x.last
          · have HF2 : audFault l ev most dy = 12 := HF.out.trans (by
              rw [if_pos]
              unfold lateA
              rw [List.any_eq_true]
              exact ⟨x, HMEM.out, decide_eq_true hld⟩)
            have HP := Lib.hid (AudPost.bad (w := w) HF2 (by decide) (HB.out.trans (HXB.out.mono HB.out.size)))
            have hgt : decide (x.last > dy) = true := decide_eq_true hld
            clear HF2
            go_wp2_with fail
            go_ret2
            exact HP.out
          · have hgt : decide (x.last > dy) = false := decide_eq_false hld
            have HL2 : Hid (lateA dy (l.take (k + 1)) = false) := Lib.hid (by rw [HST.out, lateA_snoc, HLT.out, decide_eq_false hld]; rfl)
            go_wp2_with fail
            refine (rank_gr x ev dy _ b1 b2 b5 b6 hx3).mono ?_
            rintro e w4 ⟨rfl, hg4⟩
            have HG4 := Lib.hid (show Gr (wo.alloc (.cells #[.string (bstr x.item), .int .i64 x.last, .bool x.urg] 103)) w4 from hg4)
            clear hg4 k0 k1 k2 hgt c0 c1 c2
            have HB4 := Lib.hid (HXB.out.trans (HG4.out.below.mono HXB.out.size))
            have HO4 := Lib.hid (own_below HOA.out HG4.out.below)
            have HK4 := Lib.hid (HKB.out.same (same_below HG4.out.below) hlt1)
            have hlt4 : wo.heap.size < w4.heap.size := Nat.lt_of_lt_of_le hlt1 HG4.out.below.size
            clear HXB HKB HOA HG4 hlt1
            cases hdx : delA x ev dy with
            | true =>
              have h0 : rankA x ev dy = 0 := rank_zero.2 hdx
              have HD2 : Hid (DueA ev dy (l.take (k + 1)) D) := Lib.hid (by rw [HST.out]; exact due_skip HD.out hdx)
              rw [h0]
              clear h0 hdx
              go_wp2_with fail
              go_roundw
              case rel => exact ⟨k + 1, D, by omega, by go_num, HL2, HD2, HO4, HB4⟩
              case measure => simp [intOf]; omega
            | false =>
              have hne : (rankA x ev dy == 0) = false := by rw [beq_eq_false_iff_ne]; intro e; rw [rank_zero.1 e] at hdx; cases hdx
              have HDX := Lib.hid hdx
              have HRX : Hid (∀ y ∈ D, (cmpA x y ev dy < 0 ↔ rankA x ev dy < rankA y ev dy ∨ (rankA x ev dy = rankA y ev dy ∧ x.last < y.last))) := Lib.hid (fun y hy => rank_cmp hdx (due_mem HD.out hy).2)
              clear hdx
              generalize rankA x ev dy = rx at *
              obtain ⟨AD, cD, rfl, hcD, hcDm, _⟩ := own_form HO4.out
              unfold maxLen at hcDm
              go_wp2_with fail
              have HRD := Lib.hid (auds_read HO4.out (fun s hs => by
                have := HLA.out s (List.mem_of_mem_take (due_mem HD.out hs).1)
                exact ⟨by unfold maxLen; omega, WalkArith.wf_i64 (by omega)⟩))
              have hDs : D.length ≤ 3000 := by omega
              go_loopw [16] (fun va wr2 => ∃ a : Nat, a ≤ D.length ∧ va = .int .i64 a ∧ Hid (∀ j (hj : j < D.length), a ≤ j → cmpA x D[j] ev dy < 0) ∧ Hid (Below w4.heap.size w4 wr2)) (fun va _ => (intOf va).toNat)
              case atStart => exact ⟨D.length, Nat.le_refl _, rfl, (fun j hj h => absurd h (by omega)), Below.refl _ _⟩
              case round =>
                obtain ⟨a, haD, rfl, HUP, HB3⟩ := hrel
                by_cases ha : a = 0
                · subst ha
                  go_wp2_with fail
                  go_quiet (fail)
                  obtain ⟨w6, hw6⟩ : ∃ w6, w6 = wr.drewN nq := ⟨_, rfl⟩
                  have HB6 : Hid (Below w4.heap.size w4 w6) := Lib.hid (by rw [hw6]; exact below_drewN HB3.out nq)
                  rw [← hw6]
                  clear hw6
                  have hk6 := HK4.out.same (same_below HB6.out) hlt4
                  have k0 : w6.cell? ⟨wo.heap.size, 0, none⟩ = some (Value.string (bstr x.item)) := hk6.cell 0
                  have k1 : w6.cell? ⟨wo.heap.size, 1, none⟩ = some (Value.int .i64 x.last) := hk6.cell 1
                  have k2 : w6.cell? ⟨wo.heap.size, 2, none⟩ = some (Value.bool x.urg) := hk6.cell 2
                  have ho6 := own_below HO4.out HB6.out
                  have hb7 := (Below.refl w6.heap.size w6).alloc (Nat.le_refl _) (.cells #[.string (bstr x.item), .int .i64 x.last, .bool x.urg] 103)
                  have HO7 := Lib.hid (own_below ho6 hb7)
                  have HB7 := Lib.hid (HB4.out.trans ((HB6.out.trans (hb7.mono HB6.out.size)).mono HB4.out.size))
                  have hne7 : some w6.heap.size ≠ (Value.slice AD D.length cD).ownBlock := fun e => by have := (ho6.lt _ e.symm).2; omega
                  have HIN := Lib.hid (insAud_any (.slice AD D.length cD) D.length 0 w1.heap.size w6.heap.size (D.flatMap audCells) [.string (bstr x.item), .int .i64 x.last, .bool x.urg] (w6.alloc (.cells #[.string (bstr x.item), .int .i64 x.last, .bool x.urg] 103)) HO7.out HB7.out.size (by omega) (by omega) rfl (fun u hu => by simp at hu; rcases hu with rfl | rfl | rfl <;> rfl) (fun u hu => by obtain ⟨z, _, hz⟩ := List.mem_flatMap.1 hu; simp [audCells] at hz; rcases hz with rfl | rfl | rfl <;> rfl) (Blk.new w6 103 [.string (bstr x.item), .int .i64 x.last, .bool x.urg]) hne7)
                  have HD2 : Hid (DueA ev dy (l.take (k + 1)) (D.take 0 ++ x :: D.drop 0)) := Lib.hid (by rw [HST.out]; exact due_put HD.out HLE.out HDX.out (by omega) HUP.out (fun h => absurd h (by omega)))
                  have hDn : (D.take 0 ++ x :: D.drop 0).length = D.length + 1 := by simp only [List.length_append, List.length_cons, List.length_take, List.length_drop]; omega
                  have hDf := due_flat D x 0 (by omega)
                  have HDN := Lib.hid (And.intro hDn hDf)
                  clear hk6 ho6 hb7 hDn hDf hne7
                  go_wp2_with fail
                  refine HIN.out.mono ?_
                  rintro e w8 ⟨g8, c8, rfl, ho8, hg8, _⟩
                  have HO8 : Hid (w8.ownsRow w1.heap.size 103 3 (.slice (some ⟨g8, 0, none⟩) (D.length + 1) c8) (D.take 0 ++ x :: D.drop 0).length ((D.take 0 ++ x :: D.drop 0).flatMap audCells)) := Lib.hid (by rw [HDN.out.1, ← HDN.out.2]; exact ho8)
                  have HB8 := Lib.hid (HB7.out.grown hg8 HB7.out.size (fun j hj => (HO7.out.lt j hj).1))
                  clear ho8 hg8 k0 k1 k2 HIN
                  go_wp2_with fail
                  go_roundw
                  case rel => exact ⟨k + 1, _, by omega, by go_num, HL2, HD2, HO8, HB8⟩
                  case measure => simp [intOf]; omega
                · obtain ⟨m, rfl⟩ : ∃ m, a = m + 1 := ⟨a - 1, by omega⟩
                  have hmD : m < D.length := by omega
                  obtain ⟨ad2, c2', e1, hadb2, j0, j1, j2, _, _⟩ := aud_at (Rp.below _ HRD.out HB3.out) hmD
                  injection e1 with e1 _ e3
                  subst e1 e3
                  have hadb3 : ad2.block < wr.heap.size := Nat.lt_of_lt_of_le hadb2 HB3.out.size
                  have hrc := HRX.out _ (List.getElem_mem hmD)
                  have hy3 := (HLA.out _ (List.mem_of_mem_take (due_mem HD.out (List.getElem_mem hmD)).1)).2.1
                  obtain ⟨y, hy⟩ : ∃ y, y = D[m] := ⟨_, rfl⟩
                  rw [← hy] at j0 j1 j2 hrc hy3
                  have HY : Hid (D[m] = y) := Lib.hid hy.symm
                  have HCN := Lib.hid (fun W => rank_gr y ev dy W b1 b2 b5 b6 hy3)
                  generalize rankA y ev dy = ry at *
                  have kx := (HK4.out.same (same_below HB3.out) hlt4).cell 1
                  have hwo.heap.size : wo.heap.size < wr.heap.size := Nat.lt_of_lt_of_le hlt4 HB3.out.size
                  have KEEP : Hid (∀ w', Gr wr w' → (w'.cell? (ad2.add (m * 3)) = some (.string (bstr y.item)) ∧ w'.cell? ⟨(ad2.add (m * 3)).block, (ad2.add (m * 3)).off + 1, none⟩ = some (.int .i64 y.last) ∧ w'.cell? ⟨(ad2.add (m * 3)).block, (ad2.add (m * 3)).off + 2, none⟩ = some (.bool y.urg) ∧ w'.cell? ⟨wo.heap.size, 1, none⟩ = some (.int .i64 x.last))) := Lib.hid (fun w' hg => ⟨(hg.below.cell (p := ad2.add (m * 3)) (by rw [add_block]; exact hadb3)).trans j0, (hg.below.cell (p := ⟨(ad2.add (m * 3)).block, (ad2.add (m * 3)).off + 1, none⟩) (by show (ad2.add (m * 3)).block < _; rw [add_block]; exact hadb3)).trans j1, (hg.below.cell (p := ⟨(ad2.add (m * 3)).block, (ad2.add (m * 3)).off + 2, none⟩) (by show (ad2.add (m * 3)).block < _; rw [add_block]; exact hadb3)).trans j2, (hg.below.cell (p := ⟨wo.heap.size, 1, none⟩) hwo.heap.size).trans kx⟩)
                  clear hy j0 j1 j2 kx hadb2 hadb3 hwo.heap.size
                  have hma0 : (0 : Int) < (m : Int) + 1 := by omega
                  have hmw : IntKind.i64.wrap ((m : Int) + 1 - 1) = (m : Int) := by rw [Int.add_sub_cancel]; exact IntWalk.i64_in _ (by omega)
                  have hmw2 : IntKind.i64.wrap (m : Int) = (m : Int) := IntWalk.i64_in _ (by omega)
                  have hm0 : (0 : Int) ≤ (m : Int) := by omega
                  have hml : (m : Int) < (D.length : Int) := by omega
                  by_cases r1 : rx < ry
                  · have n1 : decide (rx < ry) = true := decide_eq_true (by omega)
                    have n1b : rx < ry := by omega
                    have HCM : Hid (cmpA x y ev dy < 0) := Lib.hid (hrc.2 (by omega))
                    clear hrc
                    go_wp2_with fail
                    refine wp_region_held_drew (S := fun w' => w'.cell? (ad2.add (m * 3)) = some (.string (bstr y.item)) ∧ w'.cell? ⟨(ad2.add (m * 3)).block, (ad2.add (m * 3)).off + 1, none⟩ = some (.int .i64 y.last) ∧ w'.cell? ⟨(ad2.add (m * 3)).block, (ad2.add (m * 3)).off + 2, none⟩ = some (.bool y.urg) ∧ w'.cell? ⟨wo.heap.size, 1, none⟩ = some (.int .i64 x.last)) (by kernel_rfl) (KEEP.out wr (Gr.refl wr)) (fun hHeld => ?_)
                    obtain ⟨wq, hwq⟩ : ∃ wq, wq = wr.drew := ⟨_, rfl⟩
                    have HGq : Hid (Gr wr wq) := Lib.hid (by rw [hwq]; exact (Gr.refl wr).drew)
                    rw [← hwq] at hHeld ⊢
                    clear hwq
                    refine wpAnyH_take (i := 0) (v := ?_) rfl (by kernel_rfl) (by kernel_rfl) (by kernel_rfl) (fun _ _ _ h => h) (Or.inl ⟨by rfl, ?_⟩) (by assumption) ?_
                    rotate_left
                    · (intro w hSw; (try dsimp only at hSw); go_simp; try with_reducible rfl)
                    try simp only [List.getElem_toArray, List.getElem_cons_succ, List.getElem_cons_zero, Act.put, List.setIfInBounds_toArray, List.set_cons_zero, List.set_cons_succ]
                    refine wpAnyH_take (i := 1) (v := ?_) rfl (by kernel_rfl) (by kernel_rfl) (by kernel_rfl) (fun _ _ _ h => h) (Or.inl ⟨by rfl, ?_⟩) (by assumption) ?_
                    rotate_left
                    · (intro w hSw; (try dsimp only at hSw); go_simp; try with_reducible rfl)
                    try simp only [List.getElem_toArray, List.getElem_cons_succ, List.getElem_cons_zero, Act.put, List.setIfInBounds_toArray, List.set_cons_zero, List.set_cons_succ]
                    refine wpAnyH_take (i := 2) (v := ?_) rfl (by kernel_rfl) (by kernel_rfl) (by kernel_rfl) (fun _ _ _ h => h) (Or.inl ⟨by rfl, ?_⟩) (by assumption) ?_
                    rotate_left
                    · (intro w hSw; (try dsimp only at hSw); go_simp; try with_reducible rfl)
                    try simp only [List.getElem_toArray, List.getElem_cons_succ, List.getElem_cons_zero, Act.put, List.setIfInBounds_toArray, List.set_cons_zero, List.set_cons_succ]
                    refine wpAnyH_take (i := 3) (v := ?_) rfl (by kernel_rfl) (by kernel_rfl) (by kernel_rfl) (fun _ _ _ h => h) (Or.inl ⟨by rfl, ?_⟩) (by assumption) ?_
                    rotate_left
                    · (intro w hSw; (try dsimp only at hSw); go_simp; try with_reducible rfl)
                    try simp only [List.getElem_toArray, List.getElem_cons_succ, List.getElem_cons_zero, Act.put, List.setIfInBounds_toArray, List.set_cons_zero, List.set_cons_succ]
                    refine wpAnyH_take (i := 4) (v := ?_) rfl (by kernel_rfl) (by kernel_rfl) (by kernel_rfl) (fun _ _ _ h => h) (Or.inl ⟨by rfl, ?_⟩) (by assumption) ?_
                    rotate_left
                    · (intro w hSw; (try dsimp only at hSw); go_simp; try with_reducible rfl)
                    try simp only [List.getElem_toArray, List.getElem_cons_succ, List.getElem_cons_zero, Act.put, List.setIfInBounds_toArray, List.set_cons_zero, List.set_cons_succ]
                    refine wpAnyH_take (i := 5) (v := ?_) rfl (by kernel_rfl) (by kernel_rfl) (by kernel_rfl) (fun _ _ _ h => h) (Or.inl ⟨by rfl, ?_⟩) (by assumption) ?_
                    rotate_left
                    · (intro w hSw; (try dsimp only at hSw); go_simp; try with_reducible rfl)
                    try simp only [List.getElem_toArray, List.getElem_cons_succ, List.getElem_cons_zero, Act.put, List.setIfInBounds_toArray, List.set_cons_zero, List.set_cons_succ]
                    refine wpAnyH_take (i := 6) (v := ?_) rfl (by kernel_rfl) (by kernel_rfl) (by kernel_rfl) (fun _ _ _ h => h) (Or.inl ⟨by rfl, ?_⟩) (by assumption) ?_
                    rotate_left
                    · (intro w hSw; (try dsimp only at hSw); go_simp; try with_reducible rfl)
                    try simp only [List.getElem_toArray, List.getElem_cons_succ, List.getElem_cons_zero, Act.put, List.setIfInBounds_toArray, List.set_cons_zero, List.set_cons_succ]
                    refine wpAnyH_take (i := 7) (v := ?_) rfl (by kernel_rfl) (by kernel_rfl) (by kernel_rfl) (fun _ _ _ h => h) (Or.inl ⟨by rfl, ?_⟩) (by assumption) ?_
                    rotate_left
                    · (intro w hSw; (try dsimp only at hSw); go_simp; try with_reducible rfl)
                    try simp only [List.getElem_toArray, List.getElem_cons_succ, List.getElem_cons_zero, Act.put, List.setIfInBounds_toArray, List.set_cons_zero, List.set_cons_succ]
                    refine wpAnyH_take (i := 8) (v := ?_) rfl (by kernel_rfl) (by kernel_rfl) (by kernel_rfl) (fun _ _ _ h => h) (Or.inl ⟨by rfl, ?_⟩) (by assumption) ?_
                    rotate_left
                    · (intro w hSw; (try dsimp only at hSw); go_simp; try with_reducible rfl)
                    try simp only [List.getElem_toArray, List.getElem_cons_succ, List.getElem_cons_zero, Act.put, List.setIfInBounds_toArray, List.set_cons_zero, List.set_cons_succ]
                    refine wpAnyH_take (i := 9) (v := ?_) rfl (by kernel_rfl) (by kernel_rfl) (by kernel_rfl) (fun _ _ _ h => h) (Or.inl ⟨by rfl, ?_⟩) (by assumption) ?_
                    rotate_left
                    · (intro w hSw; (try dsimp only at hSw); go_simp; try with_reducible rfl)
                    try simp only [List.getElem_toArray, List.getElem_cons_succ, List.getElem_cons_zero, Act.put, List.setIfInBounds_toArray, List.set_cons_zero, List.set_cons_succ]
                    refine wpAnyH_take (i := 10) (v := ?_) rfl (by kernel_rfl) (by kernel_rfl) (by kernel_rfl) (fun _ _ _ h => h) (Or.inl ⟨by rfl, ?_⟩) (by assumption) ?_
                    rotate_left
                    · (intro w hSw; (try dsimp only at hSw); go_simp; try with_reducible rfl)
                    try simp only [List.getElem_toArray, List.getElem_cons_succ, List.getElem_cons_zero, Act.put, List.setIfInBounds_toArray, List.set_cons_zero, List.set_cons_succ]
                    refine wpAnyH_ready (rs := [11]) (by kernel_rfl) (by simp) ?_
                    refine AllReadyH.cons rfl (fun K hK => ?_) AllReadyH.nil
                    rw [if_pos (by rfl)]
                    simp only [List.getElem_toArray, List.getElem_cons_succ, List.getElem_cons_zero]
                    go_simp
                    go_at_call 64
                    refine (HCN.out wq).mono ?_
                    rintro e w5 ⟨rfl, hw⟩
                    have HG5 : Hid (Gr wr w5) := Lib.hid (HGq.out.trans hw)
                    clear hw
                    show K _ w5
                    refine hK.out _ _ (KEEP.out _ HG5.out) (fun hHeld => ?_)
                    clear hK K
                    try simp only [List.getElem_toArray, List.getElem_cons_succ, List.getElem_cons_zero, Act.put, List.setIfInBounds_toArray, List.set_cons_zero, List.set_cons_succ]
                    refine wpAnyH_take (i := 12) (v := ?_) rfl (by kernel_rfl) (by kernel_rfl) (by kernel_rfl) (fun _ _ _ h => h) (Or.inl ⟨by rfl, ?_⟩) (by assumption) ?_
                    rotate_left
                    · (intro w hSw; (try dsimp only at hSw); go_simp; try with_reducible rfl)
                    try simp only [List.getElem_toArray, List.getElem_cons_succ, List.getElem_cons_zero, Act.put, List.setIfInBounds_toArray, List.set_cons_zero, List.set_cons_succ]
                    refine wpAnyH_take (i := 13) (v := ?_) rfl (by kernel_rfl) (by kernel_rfl) (by kernel_rfl) (fun _ _ _ h => h) (Or.inl ⟨by rfl, ?_⟩) (by assumption) ?_
                    rotate_left
                    · (intro w hSw; (try dsimp only at hSw); go_simp; try with_reducible rfl)
                    try simp only [List.getElem_toArray, List.getElem_cons_succ, List.getElem_cons_zero, Act.put, List.setIfInBounds_toArray, List.set_cons_zero, List.set_cons_succ]
                    refine wpAnyH_take (i := 14) (v := undef) rfl (by kernel_rfl) (by kernel_rfl) (by kernel_rfl) (fun _ _ _ h => h) (Or.inr ⟨by rfl, rfl⟩) (by assumption) ?_
                    try simp only [List.getElem_toArray, List.getElem_cons_succ, List.getElem_cons_zero, Act.put, List.setIfInBounds_toArray, List.set_cons_zero, List.set_cons_succ]
                    refine wpAnyH_take (i := 15) (v := undef) rfl (by kernel_rfl) (by kernel_rfl) (by kernel_rfl) (fun _ _ _ h => h) (Or.inr ⟨by rfl, rfl⟩) (by assumption) ?_
                    try simp only [List.getElem_toArray, List.getElem_cons_succ, List.getElem_cons_zero, Act.put, List.setIfInBounds_toArray, List.set_cons_zero, List.set_cons_succ]
                    refine wpAnyH_take (i := 16) (v := undef) rfl (by kernel_rfl) (by kernel_rfl) (by kernel_rfl) (fun _ _ _ h => h) (Or.inr ⟨by rfl, rfl⟩) (by assumption) ?_
                    try simp only [List.getElem_toArray, List.getElem_cons_succ, List.getElem_cons_zero, Act.put, List.setIfInBounds_toArray, List.set_cons_zero, List.set_cons_succ]
                    refine wpAnyH_take (i := 17) (v := undef) rfl (by kernel_rfl) (by kernel_rfl) (by kernel_rfl) (fun _ _ _ h => h) (Or.inr ⟨by rfl, rfl⟩) (by assumption) ?_
                    try simp only [List.getElem_toArray, List.getElem_cons_succ, List.getElem_cons_zero, Act.put, List.setIfInBounds_toArray, List.set_cons_zero, List.set_cons_succ]
                    refine wpAnyH_take (i := 18) (v := undef) rfl (by kernel_rfl) (by kernel_rfl) (by kernel_rfl) (fun _ _ _ h => h) (Or.inr ⟨by rfl, rfl⟩) (by assumption) ?_
                    try simp only [List.getElem_toArray, List.getElem_cons_succ, List.getElem_cons_zero, Act.put, List.setIfInBounds_toArray, List.set_cons_zero, List.set_cons_succ]
                    refine wpAnyH_take (i := 19) (v := undef) rfl (by kernel_rfl) (by kernel_rfl) (by kernel_rfl) (fun _ _ _ h => h) (Or.inr ⟨by rfl, rfl⟩) (by assumption) ?_
                    try simp only [List.getElem_toArray, List.getElem_cons_succ, List.getElem_cons_zero, Act.put, List.setIfInBounds_toArray, List.set_cons_zero, List.set_cons_succ]
                    refine wpAnyH_take (i := 20) (v := undef) rfl (by kernel_rfl) (by kernel_rfl) (by kernel_rfl) (fun _ _ _ h => h) (Or.inr ⟨by rfl, rfl⟩) (by assumption) ?_
                    try simp only [List.getElem_toArray, List.getElem_cons_succ, List.getElem_cons_zero, Act.put, List.setIfInBounds_toArray, List.set_cons_zero, List.set_cons_succ]
                    refine wpAnyH_take (i := 21) (v := undef) rfl (by kernel_rfl) (by kernel_rfl) (by kernel_rfl) (fun _ _ _ h => h) (Or.inr ⟨by rfl, rfl⟩) (by assumption) ?_
                    try simp only [List.getElem_toArray, List.getElem_cons_succ, List.getElem_cons_zero, Act.put, List.setIfInBounds_toArray, List.set_cons_zero, List.set_cons_succ]
                    refine wpAnyH_take (i := 22) (v := undef) rfl (by kernel_rfl) (by kernel_rfl) (by kernel_rfl) (fun _ _ _ h => h) (Or.inr ⟨by rfl, rfl⟩) (by assumption) ?_
                    try simp only [List.getElem_toArray, List.getElem_cons_succ, List.getElem_cons_zero, Act.put, List.setIfInBounds_toArray, List.set_cons_zero, List.set_cons_succ]
                    refine wpAnyH_take (i := 23) (v := undef) rfl (by kernel_rfl) (by kernel_rfl) (by kernel_rfl) (fun _ _ _ h => h) (Or.inr ⟨by rfl, rfl⟩) (by assumption) ?_
                    try simp only [List.getElem_toArray, List.getElem_cons_succ, List.getElem_cons_zero, Act.put, List.setIfInBounds_toArray, List.set_cons_zero, List.set_cons_succ]
                    refine wpAnyH_take (i := 24) (v := undef) rfl (by kernel_rfl) (by kernel_rfl) (by kernel_rfl) (fun _ _ _ h => h) (Or.inr ⟨by rfl, rfl⟩) (by assumption) ?_
                    try simp only [List.getElem_toArray, List.getElem_cons_succ, List.getElem_cons_zero, Act.put, List.setIfInBounds_toArray, List.set_cons_zero, List.set_cons_succ]
                    refine wpAnyH_take (i := 25) (v := undef) rfl (by kernel_rfl) (by kernel_rfl) (by kernel_rfl) (fun _ _ _ h => h) (Or.inr ⟨by rfl, rfl⟩) (by assumption) ?_
                    try simp only [List.getElem_toArray, List.getElem_cons_succ, List.getElem_cons_zero, Act.put, List.setIfInBounds_toArray, List.set_cons_zero, List.set_cons_succ]
                    refine wpAnyH_take (i := 26) (v := undef) rfl (by kernel_rfl) (by kernel_rfl) (by kernel_rfl) (fun _ _ _ h => h) (Or.inr ⟨by rfl, rfl⟩) (by assumption) ?_
                    try simp only [List.getElem_toArray, List.getElem_cons_succ, List.getElem_cons_zero, Act.put, List.setIfInBounds_toArray, List.set_cons_zero, List.set_cons_succ]
                    refine wpAnyH_take (i := 27) (v := undef) rfl (by kernel_rfl) (by kernel_rfl) (by kernel_rfl) (fun _ _ _ h => h) (Or.inr ⟨by rfl, rfl⟩) (by assumption) ?_
                    try simp only [List.getElem_toArray, List.getElem_cons_succ, List.getElem_cons_zero, Act.put, List.setIfInBounds_toArray, List.set_cons_zero, List.set_cons_succ]
                    refine wpAnyH_take (i := 28) (v := undef) rfl (by kernel_rfl) (by kernel_rfl) (by kernel_rfl) (fun _ _ _ h => h) (Or.inr ⟨by rfl, rfl⟩) (by assumption) ?_
                    try simp only [List.getElem_toArray, List.getElem_cons_succ, List.getElem_cons_zero, Act.put, List.setIfInBounds_toArray, List.set_cons_zero, List.set_cons_succ]
                    refine wpAnyH_take (i := 29) (v := undef) rfl (by kernel_rfl) (by kernel_rfl) (by kernel_rfl) (fun _ _ _ h => h) (Or.inr ⟨by rfl, rfl⟩) (by assumption) ?_
                    try simp only [List.getElem_toArray, List.getElem_cons_succ, List.getElem_cons_zero, Act.put, List.setIfInBounds_toArray, List.set_cons_zero, List.set_cons_succ]
                    refine wpAnyH_take (i := 30) (v := undef) rfl (by kernel_rfl) (by kernel_rfl) (by kernel_rfl) (fun _ _ _ h => h) (Or.inr ⟨by rfl, rfl⟩) (by assumption) ?_
                    try simp only [List.getElem_toArray, List.getElem_cons_succ, List.getElem_cons_zero, Act.put, List.setIfInBounds_toArray, List.set_cons_zero, List.set_cons_succ]
                    refine wpAnyH_take (i := 31) (v := undef) rfl (by kernel_rfl) (by kernel_rfl) (by kernel_rfl) (fun _ _ _ h => h) (Or.inr ⟨by rfl, rfl⟩) (by assumption) ?_
                    try simp only [List.getElem_toArray, List.getElem_cons_succ, List.getElem_cons_zero, Act.put, List.setIfInBounds_toArray, List.set_cons_zero, List.set_cons_succ]
                    refine wpAnyH_take (i := 32) (v := undef) rfl (by kernel_rfl) (by kernel_rfl) (by kernel_rfl) (fun _ _ _ h => h) (Or.inr ⟨by rfl, rfl⟩) (by assumption) ?_
                    try simp only [List.getElem_toArray, List.getElem_cons_succ, List.getElem_cons_zero, Act.put, List.setIfInBounds_toArray, List.set_cons_zero, List.set_cons_succ]
                    refine wpAnyH_take (i := 33) (v := undef) rfl (by kernel_rfl) (by kernel_rfl) (by kernel_rfl) (fun _ _ _ h => h) (Or.inr ⟨by rfl, rfl⟩) (by assumption) ?_
                    try simp only [List.getElem_toArray, List.getElem_cons_succ, List.getElem_cons_zero, Act.put, List.setIfInBounds_toArray, List.set_cons_zero, List.set_cons_succ]
                    refine wpAnyH_take (i := 34) (v := undef) rfl (by kernel_rfl) (by kernel_rfl) (by kernel_rfl) (fun _ _ _ h => h) (Or.inr ⟨by rfl, rfl⟩) (by assumption) ?_
                    try simp only [List.getElem_toArray, List.getElem_cons_succ, List.getElem_cons_zero, Act.put, List.setIfInBounds_toArray, List.set_cons_zero, List.set_cons_succ]
                    refine wpAnyH_take (i := 35) (v := ?_) rfl (by kernel_rfl) (by kernel_rfl) (by kernel_rfl) (fun _ _ _ h => h) (Or.inl ⟨by rfl, ?_⟩) (by assumption) ?_
                    rotate_left
                    · (intro w hSw; (try dsimp only at hSw); go_simp; try with_reducible rfl)
                    try simp only [List.getElem_toArray, List.getElem_cons_succ, List.getElem_cons_zero, Act.put, List.setIfInBounds_toArray, List.set_cons_zero, List.set_cons_succ]
                    refine wpAnyH_take (i := 36) (v := ?_) rfl (by kernel_rfl) (by kernel_rfl) (by kernel_rfl) (fun _ _ _ h => h) (Or.inl ⟨by rfl, ?_⟩) (by assumption) ?_
                    rotate_left
                    · (intro w hSw; (try dsimp only at hSw); go_simp; try with_reducible rfl)
                    try simp only [List.getElem_toArray, List.getElem_cons_succ, List.getElem_cons_zero, Act.put, List.setIfInBounds_toArray, List.set_cons_zero, List.set_cons_succ]
                    refine wpAnyH_done (by kernel_rfl) ?_ _
                    clear hHeld
                    have HBZ := Lib.hid (HB3.out.trans (HG5.out.below.mono HB3.out.size))
                    clear HCN KEEP
                    have HUP2 : Hid (∀ j (hj : j < D.length), m ≤ j → cmpA x D[j] ev dy < 0) := Lib.hid (fun j hj h => by
                      rcases Nat.lt_or_eq_of_le h with h | rfl
                      · exact HUP.out j hj h
                      · rw [HY.out]; exact HCM.out)
                    go_wp2_with fail
                    go_roundw
                    case rel => exact ⟨m, by omega, by go_num, HUP2, HBZ.out⟩
                    case measure => simp [intOf]
                  · by_cases r2 : rx = ry
                    · by_cases r3 : x.last < y.last
                      · have n1 : decide (rx < ry) = false := decide_eq_false (by omega)
                        have n1b : ¬ rx < ry := by omega
                        subst r2
                        have n3 : decide (x.last < y.last) = true := decide_eq_true (by omega)
                        have n3b : x.last < y.last := by omega
                        have HCM : Hid (cmpA x y ev dy < 0) := Lib.hid (hrc.2 (by omega))
                        clear hrc
                        go_wp2_with fail
                        refine wp_region_held_drew (S := fun w' => w'.cell? (ad2.add (m * 3)) = some (.string (bstr y.item)) ∧ w'.cell? ⟨(ad2.add (m * 3)).block, (ad2.add (m * 3)).off + 1, none⟩ = some (.int .i64 y.last) ∧ w'.cell? ⟨(ad2.add (m * 3)).block, (ad2.add (m * 3)).off + 2, none⟩ = some (.bool y.urg) ∧ w'.cell? ⟨wo.heap.size, 1, none⟩ = some (.int .i64 x.last)) (by kernel_rfl) (KEEP.out wr (Gr.refl wr)) (fun hHeld => ?_)
                        obtain ⟨wq, hwq⟩ : ∃ wq, wq = wr.drew := ⟨_, rfl⟩
                        have HGq : Hid (Gr wr wq) := Lib.hid (by rw [hwq]; exact (Gr.refl wr).drew)
                        rw [← hwq] at hHeld ⊢
                        clear hwq
                        refine wpAnyH_take (i := 0) (v := ?_) rfl (by kernel_rfl) (by kernel_rfl) (by kernel_rfl) (fun _ _ _ h => h) (Or.inl ⟨by rfl, ?_⟩) (by assumption) ?_
                        rotate_left
                        · (intro w hSw; (try dsimp only at hSw); go_simp; try with_reducible rfl)
                        try simp only [List.getElem_toArray, List.getElem_cons_succ, List.getElem_cons_zero, Act.put, List.setIfInBounds_toArray, List.set_cons_zero, List.set_cons_succ]
                        refine wpAnyH_take (i := 1) (v := ?_) rfl (by kernel_rfl) (by kernel_rfl) (by kernel_rfl) (fun _ _ _ h => h) (Or.inl ⟨by rfl, ?_⟩) (by assumption) ?_
                        rotate_left
                        · (intro w hSw; (try dsimp only at hSw); go_simp; try with_reducible rfl)
                        try simp only [List.getElem_toArray, List.getElem_cons_succ, List.getElem_cons_zero, Act.put, List.setIfInBounds_toArray, List.set_cons_zero, List.set_cons_succ]
                        refine wpAnyH_take (i := 2) (v := ?_) rfl (by kernel_rfl) (by kernel_rfl) (by kernel_rfl) (fun _ _ _ h => h) (Or.inl ⟨by rfl, ?_⟩) (by assumption) ?_
                        rotate_left
                        · (intro w hSw; (try dsimp only at hSw); go_simp; try with_reducible rfl)
                        try simp only [List.getElem_toArray, List.getElem_cons_succ, List.getElem_cons_zero, Act.put, List.setIfInBounds_toArray, List.set_cons_zero, List.set_cons_succ]
                        refine wpAnyH_take (i := 3) (v := ?_) rfl (by kernel_rfl) (by kernel_rfl) (by kernel_rfl) (fun _ _ _ h => h) (Or.inl ⟨by rfl, ?_⟩) (by assumption) ?_
                        rotate_left
                        · (intro w hSw; (try dsimp only at hSw); go_simp; try with_reducible rfl)
                        try simp only [List.getElem_toArray, List.getElem_cons_succ, List.getElem_cons_zero, Act.put, List.setIfInBounds_toArray, List.set_cons_zero, List.set_cons_succ]
                        refine wpAnyH_take (i := 4) (v := ?_) rfl (by kernel_rfl) (by kernel_rfl) (by kernel_rfl) (fun _ _ _ h => h) (Or.inl ⟨by rfl, ?_⟩) (by assumption) ?_
                        rotate_left
                        · (intro w hSw; (try dsimp only at hSw); go_simp; try with_reducible rfl)
                        try simp only [List.getElem_toArray, List.getElem_cons_succ, List.getElem_cons_zero, Act.put, List.setIfInBounds_toArray, List.set_cons_zero, List.set_cons_succ]
                        refine wpAnyH_take (i := 5) (v := ?_) rfl (by kernel_rfl) (by kernel_rfl) (by kernel_rfl) (fun _ _ _ h => h) (Or.inl ⟨by rfl, ?_⟩) (by assumption) ?_
                        rotate_left
                        · (intro w hSw; (try dsimp only at hSw); go_simp; try with_reducible rfl)
                        try simp only [List.getElem_toArray, List.getElem_cons_succ, List.getElem_cons_zero, Act.put, List.setIfInBounds_toArray, List.set_cons_zero, List.set_cons_succ]
                        refine wpAnyH_take (i := 6) (v := ?_) rfl (by kernel_rfl) (by kernel_rfl) (by kernel_rfl) (fun _ _ _ h => h) (Or.inl ⟨by rfl, ?_⟩) (by assumption) ?_
                        rotate_left
                        · (intro w hSw; (try dsimp only at hSw); go_simp; try with_reducible rfl)
                        try simp only [List.getElem_toArray, List.getElem_cons_succ, List.getElem_cons_zero, Act.put, List.setIfInBounds_toArray, List.set_cons_zero, List.set_cons_succ]
                        refine wpAnyH_take (i := 7) (v := ?_) rfl (by kernel_rfl) (by kernel_rfl) (by kernel_rfl) (fun _ _ _ h => h) (Or.inl ⟨by rfl, ?_⟩) (by assumption) ?_
                        rotate_left
                        · (intro w hSw; (try dsimp only at hSw); go_simp; try with_reducible rfl)
                        try simp only [List.getElem_toArray, List.getElem_cons_succ, List.getElem_cons_zero, Act.put, List.setIfInBounds_toArray, List.set_cons_zero, List.set_cons_succ]
                        refine wpAnyH_take (i := 8) (v := ?_) rfl (by kernel_rfl) (by kernel_rfl) (by kernel_rfl) (fun _ _ _ h => h) (Or.inl ⟨by rfl, ?_⟩) (by assumption) ?_
                        rotate_left
                        · (intro w hSw; (try dsimp only at hSw); go_simp; try with_reducible rfl)
                        try simp only [List.getElem_toArray, List.getElem_cons_succ, List.getElem_cons_zero, Act.put, List.setIfInBounds_toArray, List.set_cons_zero, List.set_cons_succ]
                        refine wpAnyH_take (i := 9) (v := ?_) rfl (by kernel_rfl) (by kernel_rfl) (by kernel_rfl) (fun _ _ _ h => h) (Or.inl ⟨by rfl, ?_⟩) (by assumption) ?_
                        rotate_left
                        · (intro w hSw; (try dsimp only at hSw); go_simp; try with_reducible rfl)
                        try simp only [List.getElem_toArray, List.getElem_cons_succ, List.getElem_cons_zero, Act.put, List.setIfInBounds_toArray, List.set_cons_zero, List.set_cons_succ]
                        refine wpAnyH_take (i := 10) (v := ?_) rfl (by kernel_rfl) (by kernel_rfl) (by kernel_rfl) (fun _ _ _ h => h) (Or.inl ⟨by rfl, ?_⟩) (by assumption) ?_
                        rotate_left
                        · (intro w hSw; (try dsimp only at hSw); go_simp; try with_reducible rfl)
                        try simp only [List.getElem_toArray, List.getElem_cons_succ, List.getElem_cons_zero, Act.put, List.setIfInBounds_toArray, List.set_cons_zero, List.set_cons_succ]
                        refine wpAnyH_ready (rs := [11]) (by kernel_rfl) (by simp) ?_
                        refine AllReadyH.cons rfl (fun K hK => ?_) AllReadyH.nil
                        rw [if_pos (by rfl)]
                        simp only [List.getElem_toArray, List.getElem_cons_succ, List.getElem_cons_zero]
                        go_simp
                        go_at_call 64
                        refine (HCN.out wq).mono ?_
                        rintro e w5 ⟨rfl, hw⟩
                        have HG5 : Hid (Gr wr w5) := Lib.hid (HGq.out.trans hw)
                        clear hw
                        show K _ w5
                        refine hK.out _ _ (KEEP.out _ HG5.out) (fun hHeld => ?_)
                        clear hK K
                        try simp only [List.getElem_toArray, List.getElem_cons_succ, List.getElem_cons_zero, Act.put, List.setIfInBounds_toArray, List.set_cons_zero, List.set_cons_succ]
                        refine wpAnyH_take (i := 12) (v := ?_) rfl (by kernel_rfl) (by kernel_rfl) (by kernel_rfl) (fun _ _ _ h => h) (Or.inl ⟨by rfl, ?_⟩) (by assumption) ?_
                        rotate_left
                        · (intro w hSw; (try dsimp only at hSw); go_simp; try with_reducible rfl)
                        try simp only [List.getElem_toArray, List.getElem_cons_succ, List.getElem_cons_zero, Act.put, List.setIfInBounds_toArray, List.set_cons_zero, List.set_cons_succ]
                        refine wpAnyH_take (i := 13) (v := ?_) rfl (by kernel_rfl) (by kernel_rfl) (by kernel_rfl) (fun _ _ _ h => h) (Or.inl ⟨by rfl, ?_⟩) (by assumption) ?_
                        rotate_left
                        · (intro w hSw; (try dsimp only at hSw); go_simp; try with_reducible rfl)
                        try simp only [List.getElem_toArray, List.getElem_cons_succ, List.getElem_cons_zero, Act.put, List.setIfInBounds_toArray, List.set_cons_zero, List.set_cons_succ]
                        refine wpAnyH_take (i := 14) (v := ?_) rfl (by kernel_rfl) (by kernel_rfl) (by kernel_rfl) (fun _ _ _ h => h) (Or.inl ⟨by rfl, ?_⟩) (by assumption) ?_
                        rotate_left
                        · (intro w hSw; (try dsimp only at hSw); go_simp; try with_reducible rfl)
                        try simp only [List.getElem_toArray, List.getElem_cons_succ, List.getElem_cons_zero, Act.put, List.setIfInBounds_toArray, List.set_cons_zero, List.set_cons_succ]
                        refine wpAnyH_take (i := 15) (v := ?_) rfl (by kernel_rfl) (by kernel_rfl) (by kernel_rfl) (fun _ _ _ h => h) (Or.inl ⟨by rfl, ?_⟩) (by assumption) ?_
                        rotate_left
                        · (intro w hSw; (try dsimp only at hSw); go_simp; try with_reducible rfl)
                        try simp only [List.getElem_toArray, List.getElem_cons_succ, List.getElem_cons_zero, Act.put, List.setIfInBounds_toArray, List.set_cons_zero, List.set_cons_succ]
                        refine wpAnyH_take (i := 16) (v := ?_) rfl (by kernel_rfl) (by kernel_rfl) (by kernel_rfl) (fun _ _ _ h => h) (Or.inl ⟨by rfl, ?_⟩) (by assumption) ?_
                        rotate_left
                        · (intro w hSw; (try dsimp only at hSw); go_simp; try with_reducible rfl)
                        try simp only [List.getElem_toArray, List.getElem_cons_succ, List.getElem_cons_zero, Act.put, List.setIfInBounds_toArray, List.set_cons_zero, List.set_cons_succ]
                        refine wpAnyH_take (i := 17) (v := ?_) rfl (by kernel_rfl) (by kernel_rfl) (by kernel_rfl) (fun _ _ _ h => h) (Or.inl ⟨by rfl, ?_⟩) (by assumption) ?_
                        rotate_left
                        · (intro w hSw; (try dsimp only at hSw); go_simp; try with_reducible rfl)
                        try simp only [List.getElem_toArray, List.getElem_cons_succ, List.getElem_cons_zero, Act.put, List.setIfInBounds_toArray, List.set_cons_zero, List.set_cons_succ]
                        refine wpAnyH_take (i := 18) (v := ?_) rfl (by kernel_rfl) (by kernel_rfl) (by kernel_rfl) (fun _ _ _ h => h) (Or.inl ⟨by rfl, ?_⟩) (by assumption) ?_
                        rotate_left
                        · (intro w hSw; (try dsimp only at hSw); go_simp; try with_reducible rfl)
                        try simp only [List.getElem_toArray, List.getElem_cons_succ, List.getElem_cons_zero, Act.put, List.setIfInBounds_toArray, List.set_cons_zero, List.set_cons_succ]
                        refine wpAnyH_take (i := 19) (v := ?_) rfl (by kernel_rfl) (by kernel_rfl) (by kernel_rfl) (fun _ _ _ h => h) (Or.inl ⟨by rfl, ?_⟩) (by assumption) ?_
                        rotate_left
                        · (intro w hSw; (try dsimp only at hSw); go_simp; try with_reducible rfl)
                        try simp only [List.getElem_toArray, List.getElem_cons_succ, List.getElem_cons_zero, Act.put, List.setIfInBounds_toArray, List.set_cons_zero, List.set_cons_succ]
                        refine wpAnyH_take (i := 20) (v := ?_) rfl (by kernel_rfl) (by kernel_rfl) (by kernel_rfl) (fun _ _ _ h => h) (Or.inl ⟨by rfl, ?_⟩) (by assumption) ?_
                        rotate_left
                        · (intro w hSw; (try dsimp only at hSw); go_simp; try with_reducible rfl)
                        try simp only [List.getElem_toArray, List.getElem_cons_succ, List.getElem_cons_zero, Act.put, List.setIfInBounds_toArray, List.set_cons_zero, List.set_cons_succ]
                        refine wpAnyH_take (i := 21) (v := ?_) rfl (by kernel_rfl) (by kernel_rfl) (by kernel_rfl) (fun _ _ _ h => h) (Or.inl ⟨by rfl, ?_⟩) (by assumption) ?_
                        rotate_left
                        · (intro w hSw; (try dsimp only at hSw); go_simp; try with_reducible rfl)
                        try simp only [List.getElem_toArray, List.getElem_cons_succ, List.getElem_cons_zero, Act.put, List.setIfInBounds_toArray, List.set_cons_zero, List.set_cons_succ]
                        refine wpAnyH_ready (rs := [22]) (by kernel_rfl) (by simp) ?_
                        refine AllReadyH.cons rfl (fun K hK => ?_) AllReadyH.nil
                        rw [if_pos (by rfl)]
                        simp only [List.getElem_toArray, List.getElem_cons_succ, List.getElem_cons_zero]
                        go_simp
                        go_at_call 64
                        refine (HCN.out w5).mono ?_
                        rintro e w6 ⟨rfl, hw⟩
                        have HG6 : Hid (Gr wr w6) := Lib.hid (HG5.out.trans hw)
                        clear hw
                        show K _ w6
                        refine hK.out _ _ (KEEP.out _ HG6.out) (fun hHeld => ?_)
                        clear hK K
                        try simp only [List.getElem_toArray, List.getElem_cons_succ, List.getElem_cons_zero, Act.put, List.setIfInBounds_toArray, List.set_cons_zero, List.set_cons_succ]
                        refine wpAnyH_take (i := 23) (v := ?_) rfl (by kernel_rfl) (by kernel_rfl) (by kernel_rfl) (fun _ _ _ h => h) (Or.inl ⟨by rfl, ?_⟩) (by assumption) ?_
                        rotate_left
                        · (intro w hSw; (try dsimp only at hSw); go_simp; try with_reducible rfl)
                        try simp only [List.getElem_toArray, List.getElem_cons_succ, List.getElem_cons_zero, Act.put, List.setIfInBounds_toArray, List.set_cons_zero, List.set_cons_succ]
                        refine wpAnyH_take (i := 24) (v := ?_) rfl (by kernel_rfl) (by kernel_rfl) (by kernel_rfl) (fun _ _ _ h => h) (Or.inl ⟨by rfl, ?_⟩) (by assumption) ?_
                        rotate_left
                        · (intro w hSw; (try dsimp only at hSw); go_simp; try with_reducible rfl)
                        try simp only [List.getElem_toArray, List.getElem_cons_succ, List.getElem_cons_zero, Act.put, List.setIfInBounds_toArray, List.set_cons_zero, List.set_cons_succ]
                        refine wpAnyH_take (i := 25) (v := ?_) rfl (by kernel_rfl) (by kernel_rfl) (by kernel_rfl) (fun _ _ _ h => h) (Or.inl ⟨by rfl, ?_⟩) (by assumption) ?_
                        rotate_left
                        · (intro w hSw; (try dsimp only at hSw); go_simp; try with_reducible rfl)
                        try simp only [List.getElem_toArray, List.getElem_cons_succ, List.getElem_cons_zero, Act.put, List.setIfInBounds_toArray, List.set_cons_zero, List.set_cons_succ]
                        refine wpAnyH_take (i := 26) (v := ?_) rfl (by kernel_rfl) (by kernel_rfl) (by kernel_rfl) (fun _ _ _ h => h) (Or.inl ⟨by rfl, ?_⟩) (by assumption) ?_
                        rotate_left
                        · (intro w hSw; (try dsimp only at hSw); go_simp; try with_reducible rfl)
                        try simp only [List.getElem_toArray, List.getElem_cons_succ, List.getElem_cons_zero, Act.put, List.setIfInBounds_toArray, List.set_cons_zero, List.set_cons_succ]
                        refine wpAnyH_take (i := 27) (v := ?_) rfl (by kernel_rfl) (by kernel_rfl) (by kernel_rfl) (fun _ _ _ h => h) (Or.inl ⟨by rfl, ?_⟩) (by assumption) ?_
                        rotate_left
                        · (intro w hSw; (try dsimp only at hSw); go_simp; try with_reducible rfl)
                        try simp only [List.getElem_toArray, List.getElem_cons_succ, List.getElem_cons_zero, Act.put, List.setIfInBounds_toArray, List.set_cons_zero, List.set_cons_succ]
                        refine wpAnyH_take (i := 28) (v := ?_) rfl (by kernel_rfl) (by kernel_rfl) (by kernel_rfl) (fun _ _ _ h => h) (Or.inl ⟨by rfl, ?_⟩) (by assumption) ?_
                        rotate_left
                        · (intro w hSw; (try dsimp only at hSw); go_simp; try with_reducible rfl)
                        try simp only [List.getElem_toArray, List.getElem_cons_succ, List.getElem_cons_zero, Act.put, List.setIfInBounds_toArray, List.set_cons_zero, List.set_cons_succ]
                        refine wpAnyH_take (i := 29) (v := ?_) rfl (by kernel_rfl) (by kernel_rfl) (by kernel_rfl) (fun _ _ _ h => h) (Or.inl ⟨by rfl, ?_⟩) (by assumption) ?_
                        rotate_left
                        · (intro w hSw; (try dsimp only at hSw); go_simp; try with_reducible rfl)
                        try simp only [List.getElem_toArray, List.getElem_cons_succ, List.getElem_cons_zero, Act.put, List.setIfInBounds_toArray, List.set_cons_zero, List.set_cons_succ]
                        refine wpAnyH_take (i := 30) (v := ?_) rfl (by kernel_rfl) (by kernel_rfl) (by kernel_rfl) (fun _ _ _ h => h) (Or.inl ⟨by rfl, ?_⟩) (by assumption) ?_
                        rotate_left
                        · (intro w hSw; (try dsimp only at hSw); go_simp; try with_reducible rfl)
                        try simp only [List.getElem_toArray, List.getElem_cons_succ, List.getElem_cons_zero, Act.put, List.setIfInBounds_toArray, List.set_cons_zero, List.set_cons_succ]
                        refine wpAnyH_take (i := 31) (v := ?_) rfl (by kernel_rfl) (by kernel_rfl) (by kernel_rfl) (fun _ _ _ h => h) (Or.inl ⟨by rfl, ?_⟩) (by assumption) ?_
                        rotate_left
                        · (intro w hSw; (try dsimp only at hSw); go_simp; try with_reducible rfl)
                        try simp only [List.getElem_toArray, List.getElem_cons_succ, List.getElem_cons_zero, Act.put, List.setIfInBounds_toArray, List.set_cons_zero, List.set_cons_succ]
                        refine wpAnyH_take (i := 32) (v := ?_) rfl (by kernel_rfl) (by kernel_rfl) (by kernel_rfl) (fun _ _ _ h => h) (Or.inl ⟨by rfl, ?_⟩) (by assumption) ?_
                        rotate_left
                        · (intro w hSw; (try dsimp only at hSw); go_simp; try with_reducible rfl)
                        try simp only [List.getElem_toArray, List.getElem_cons_succ, List.getElem_cons_zero, Act.put, List.setIfInBounds_toArray, List.set_cons_zero, List.set_cons_succ]
                        refine wpAnyH_take (i := 33) (v := ?_) rfl (by kernel_rfl) (by kernel_rfl) (by kernel_rfl) (fun _ _ _ h => h) (Or.inl ⟨by rfl, ?_⟩) (by assumption) ?_
                        rotate_left
                        · (intro w hSw; (try dsimp only at hSw); go_simp; try with_reducible rfl)
                        try simp only [List.getElem_toArray, List.getElem_cons_succ, List.getElem_cons_zero, Act.put, List.setIfInBounds_toArray, List.set_cons_zero, List.set_cons_succ]
                        refine wpAnyH_take (i := 34) (v := ?_) rfl (by kernel_rfl) (by kernel_rfl) (by kernel_rfl) (fun _ _ _ h => h) (Or.inl ⟨by rfl, ?_⟩) (by assumption) ?_
                        rotate_left
                        · (intro w hSw; (try dsimp only at hSw); go_simp; try with_reducible rfl)
                        try simp only [List.getElem_toArray, List.getElem_cons_succ, List.getElem_cons_zero, Act.put, List.setIfInBounds_toArray, List.set_cons_zero, List.set_cons_succ]
                        refine wpAnyH_take (i := 35) (v := ?_) rfl (by kernel_rfl) (by kernel_rfl) (by kernel_rfl) (fun _ _ _ h => h) (Or.inl ⟨by rfl, ?_⟩) (by assumption) ?_
                        rotate_left
                        · (intro w hSw; (try dsimp only at hSw); go_simp; try with_reducible rfl)
                        try simp only [List.getElem_toArray, List.getElem_cons_succ, List.getElem_cons_zero, Act.put, List.setIfInBounds_toArray, List.set_cons_zero, List.set_cons_succ]
                        refine wpAnyH_take (i := 36) (v := ?_) rfl (by kernel_rfl) (by kernel_rfl) (by kernel_rfl) (fun _ _ _ h => h) (Or.inl ⟨by rfl, ?_⟩) (by assumption) ?_
                        rotate_left
                        · (intro w hSw; (try dsimp only at hSw); go_simp; try with_reducible rfl)
                        try simp only [List.getElem_toArray, List.getElem_cons_succ, List.getElem_cons_zero, Act.put, List.setIfInBounds_toArray, List.set_cons_zero, List.set_cons_succ]
                        refine wpAnyH_done (by kernel_rfl) ?_ _
                        clear hHeld
                        have HBZ := Lib.hid (HB3.out.trans (HG6.out.below.mono HB3.out.size))
                        clear HCN KEEP
                        have HUP2 : Hid (∀ j (hj : j < D.length), m ≤ j → cmpA x D[j] ev dy < 0) := Lib.hid (fun j hj h => by
                          rcases Nat.lt_or_eq_of_le h with h | rfl
                          · exact HUP.out j hj h
                          · rw [HY.out]; exact HCM.out)
                        go_wp2_with fail
                        go_roundw
                        case rel => exact ⟨m, by omega, by go_num, HUP2, HBZ.out⟩
                        case measure => simp [intOf]
                      · have n1 : decide (rx < ry) = false := decide_eq_false (by omega)
                        have n1b : ¬ rx < ry := by omega
                        subst r2
                        have n3 : decide (x.last < y.last) = false := decide_eq_false (by omega)
                        have n3b : ¬ x.last < y.last := by omega
                        have HCM : Hid (¬ cmpA x y ev dy < 0) := Lib.hid (fun h => by have := hrc.1 h; omega)
                        clear hrc
                        go_wp2_with fail
                        refine wp_region_held_drew (S := fun w' => w'.cell? (ad2.add (m * 3)) = some (.string (bstr y.item)) ∧ w'.cell? ⟨(ad2.add (m * 3)).block, (ad2.add (m * 3)).off + 1, none⟩ = some (.int .i64 y.last) ∧ w'.cell? ⟨(ad2.add (m * 3)).block, (ad2.add (m * 3)).off + 2, none⟩ = some (.bool y.urg) ∧ w'.cell? ⟨wo.heap.size, 1, none⟩ = some (.int .i64 x.last)) (by kernel_rfl) (KEEP.out wr (Gr.refl wr)) (fun hHeld => ?_)
                        obtain ⟨wq, hwq⟩ : ∃ wq, wq = wr.drew := ⟨_, rfl⟩
                        have HGq : Hid (Gr wr wq) := Lib.hid (by rw [hwq]; exact (Gr.refl wr).drew)
                        rw [← hwq] at hHeld ⊢
                        clear hwq
                        refine wpAnyH_take (i := 0) (v := ?_) rfl (by kernel_rfl) (by kernel_rfl) (by kernel_rfl) (fun _ _ _ h => h) (Or.inl ⟨by rfl, ?_⟩) (by assumption) ?_
                        rotate_left
                        · (intro w hSw; (try dsimp only at hSw); go_simp; try with_reducible rfl)
                        try simp only [List.getElem_toArray, List.getElem_cons_succ, List.getElem_cons_zero, Act.put, List.setIfInBounds_toArray, List.set_cons_zero, List.set_cons_succ]
                        refine wpAnyH_take (i := 1) (v := ?_) rfl (by kernel_rfl) (by kernel_rfl) (by kernel_rfl) (fun _ _ _ h => h) (Or.inl ⟨by rfl, ?_⟩) (by assumption) ?_
                        rotate_left
                        · (intro w hSw; (try dsimp only at hSw); go_simp; try with_reducible rfl)
                        try simp only [List.getElem_toArray, List.getElem_cons_succ, List.getElem_cons_zero, Act.put, List.setIfInBounds_toArray, List.set_cons_zero, List.set_cons_succ]
                        refine wpAnyH_take (i := 2) (v := ?_) rfl (by kernel_rfl) (by kernel_rfl) (by kernel_rfl) (fun _ _ _ h => h) (Or.inl ⟨by rfl, ?_⟩) (by assumption) ?_
                        rotate_left
                        · (intro w hSw; (try dsimp only at hSw); go_simp; try with_reducible rfl)
                        try simp only [List.getElem_toArray, List.getElem_cons_succ, List.getElem_cons_zero, Act.put, List.setIfInBounds_toArray, List.set_cons_zero, List.set_cons_succ]
                        refine wpAnyH_take (i := 3) (v := ?_) rfl (by kernel_rfl) (by kernel_rfl) (by kernel_rfl) (fun _ _ _ h => h) (Or.inl ⟨by rfl, ?_⟩) (by assumption) ?_
                        rotate_left
                        · (intro w hSw; (try dsimp only at hSw); go_simp; try with_reducible rfl)
                        try simp only [List.getElem_toArray, List.getElem_cons_succ, List.getElem_cons_zero, Act.put, List.setIfInBounds_toArray, List.set_cons_zero, List.set_cons_succ]
                        refine wpAnyH_take (i := 4) (v := ?_) rfl (by kernel_rfl) (by kernel_rfl) (by kernel_rfl) (fun _ _ _ h => h) (Or.inl ⟨by rfl, ?_⟩) (by assumption) ?_
                        rotate_left
                        · (intro w hSw; (try dsimp only at hSw); go_simp; try with_reducible rfl)
                        try simp only [List.getElem_toArray, List.getElem_cons_succ, List.getElem_cons_zero, Act.put, List.setIfInBounds_toArray, List.set_cons_zero, List.set_cons_succ]
                        refine wpAnyH_take (i := 5) (v := ?_) rfl (by kernel_rfl) (by kernel_rfl) (by kernel_rfl) (fun _ _ _ h => h) (Or.inl ⟨by rfl, ?_⟩) (by assumption) ?_
                        rotate_left
                        · (intro w hSw; (try dsimp only at hSw); go_simp; try with_reducible rfl)
                        try simp only [List.getElem_toArray, List.getElem_cons_succ, List.getElem_cons_zero, Act.put, List.setIfInBounds_toArray, List.set_cons_zero, List.set_cons_succ]
                        refine wpAnyH_take (i := 6) (v := ?_) rfl (by kernel_rfl) (by kernel_rfl) (by kernel_rfl) (fun _ _ _ h => h) (Or.inl ⟨by rfl, ?_⟩) (by assumption) ?_
                        rotate_left
                        · (intro w hSw; (try dsimp only at hSw); go_simp; try with_reducible rfl)
                        try simp only [List.getElem_toArray, List.getElem_cons_succ, List.getElem_cons_zero, Act.put, List.setIfInBounds_toArray, List.set_cons_zero, List.set_cons_succ]
                        refine wpAnyH_take (i := 7) (v := ?_) rfl (by kernel_rfl) (by kernel_rfl) (by kernel_rfl) (fun _ _ _ h => h) (Or.inl ⟨by rfl, ?_⟩) (by assumption) ?_
                        rotate_left
                        · (intro w hSw; (try dsimp only at hSw); go_simp; try with_reducible rfl)
                        try simp only [List.getElem_toArray, List.getElem_cons_succ, List.getElem_cons_zero, Act.put, List.setIfInBounds_toArray, List.set_cons_zero, List.set_cons_succ]
                        refine wpAnyH_take (i := 8) (v := ?_) rfl (by kernel_rfl) (by kernel_rfl) (by kernel_rfl) (fun _ _ _ h => h) (Or.inl ⟨by rfl, ?_⟩) (by assumption) ?_
                        rotate_left
                        · (intro w hSw; (try dsimp only at hSw); go_simp; try with_reducible rfl)
                        try simp only [List.getElem_toArray, List.getElem_cons_succ, List.getElem_cons_zero, Act.put, List.setIfInBounds_toArray, List.set_cons_zero, List.set_cons_succ]
                        refine wpAnyH_take (i := 9) (v := ?_) rfl (by kernel_rfl) (by kernel_rfl) (by kernel_rfl) (fun _ _ _ h => h) (Or.inl ⟨by rfl, ?_⟩) (by assumption) ?_
                        rotate_left
                        · (intro w hSw; (try dsimp only at hSw); go_simp; try with_reducible rfl)
                        try simp only [List.getElem_toArray, List.getElem_cons_succ, List.getElem_cons_zero, Act.put, List.setIfInBounds_toArray, List.set_cons_zero, List.set_cons_succ]
                        refine wpAnyH_take (i := 10) (v := ?_) rfl (by kernel_rfl) (by kernel_rfl) (by kernel_rfl) (fun _ _ _ h => h) (Or.inl ⟨by rfl, ?_⟩) (by assumption) ?_
                        rotate_left
                        · (intro w hSw; (try dsimp only at hSw); go_simp; try with_reducible rfl)
                        try simp only [List.getElem_toArray, List.getElem_cons_succ, List.getElem_cons_zero, Act.put, List.setIfInBounds_toArray, List.set_cons_zero, List.set_cons_succ]
                        refine wpAnyH_ready (rs := [11]) (by kernel_rfl) (by simp) ?_
                        refine AllReadyH.cons rfl (fun K hK => ?_) AllReadyH.nil
                        rw [if_pos (by rfl)]
                        simp only [List.getElem_toArray, List.getElem_cons_succ, List.getElem_cons_zero]
                        go_simp
                        go_at_call 64
                        refine (HCN.out wq).mono ?_
                        rintro e w5 ⟨rfl, hw⟩
                        have HG5 : Hid (Gr wr w5) := Lib.hid (HGq.out.trans hw)
                        clear hw
                        show K _ w5
                        refine hK.out _ _ (KEEP.out _ HG5.out) (fun hHeld => ?_)
                        clear hK K
                        try simp only [List.getElem_toArray, List.getElem_cons_succ, List.getElem_cons_zero, Act.put, List.setIfInBounds_toArray, List.set_cons_zero, List.set_cons_succ]
                        refine wpAnyH_take (i := 12) (v := ?_) rfl (by kernel_rfl) (by kernel_rfl) (by kernel_rfl) (fun _ _ _ h => h) (Or.inl ⟨by rfl, ?_⟩) (by assumption) ?_
                        rotate_left
                        · (intro w hSw; (try dsimp only at hSw); go_simp; try with_reducible rfl)
                        try simp only [List.getElem_toArray, List.getElem_cons_succ, List.getElem_cons_zero, Act.put, List.setIfInBounds_toArray, List.set_cons_zero, List.set_cons_succ]
                        refine wpAnyH_take (i := 13) (v := ?_) rfl (by kernel_rfl) (by kernel_rfl) (by kernel_rfl) (fun _ _ _ h => h) (Or.inl ⟨by rfl, ?_⟩) (by assumption) ?_
                        rotate_left
                        · (intro w hSw; (try dsimp only at hSw); go_simp; try with_reducible rfl)
                        try simp only [List.getElem_toArray, List.getElem_cons_succ, List.getElem_cons_zero, Act.put, List.setIfInBounds_toArray, List.set_cons_zero, List.set_cons_succ]
                        refine wpAnyH_take (i := 14) (v := ?_) rfl (by kernel_rfl) (by kernel_rfl) (by kernel_rfl) (fun _ _ _ h => h) (Or.inl ⟨by rfl, ?_⟩) (by assumption) ?_
                        rotate_left
                        · (intro w hSw; (try dsimp only at hSw); go_simp; try with_reducible rfl)
                        try simp only [List.getElem_toArray, List.getElem_cons_succ, List.getElem_cons_zero, Act.put, List.setIfInBounds_toArray, List.set_cons_zero, List.set_cons_succ]
                        refine wpAnyH_take (i := 15) (v := ?_) rfl (by kernel_rfl) (by kernel_rfl) (by kernel_rfl) (fun _ _ _ h => h) (Or.inl ⟨by rfl, ?_⟩) (by assumption) ?_
                        rotate_left
                        · (intro w hSw; (try dsimp only at hSw); go_simp; try with_reducible rfl)
                        try simp only [List.getElem_toArray, List.getElem_cons_succ, List.getElem_cons_zero, Act.put, List.setIfInBounds_toArray, List.set_cons_zero, List.set_cons_succ]
                        refine wpAnyH_take (i := 16) (v := ?_) rfl (by kernel_rfl) (by kernel_rfl) (by kernel_rfl) (fun _ _ _ h => h) (Or.inl ⟨by rfl, ?_⟩) (by assumption) ?_
                        rotate_left
                        · (intro w hSw; (try dsimp only at hSw); go_simp; try with_reducible rfl)
                        try simp only [List.getElem_toArray, List.getElem_cons_succ, List.getElem_cons_zero, Act.put, List.setIfInBounds_toArray, List.set_cons_zero, List.set_cons_succ]
                        refine wpAnyH_take (i := 17) (v := ?_) rfl (by kernel_rfl) (by kernel_rfl) (by kernel_rfl) (fun _ _ _ h => h) (Or.inl ⟨by rfl, ?_⟩) (by assumption) ?_
                        rotate_left
                        · (intro w hSw; (try dsimp only at hSw); go_simp; try with_reducible rfl)
                        try simp only [List.getElem_toArray, List.getElem_cons_succ, List.getElem_cons_zero, Act.put, List.setIfInBounds_toArray, List.set_cons_zero, List.set_cons_succ]
                        refine wpAnyH_take (i := 18) (v := ?_) rfl (by kernel_rfl) (by kernel_rfl) (by kernel_rfl) (fun _ _ _ h => h) (Or.inl ⟨by rfl, ?_⟩) (by assumption) ?_
                        rotate_left
                        · (intro w hSw; (try dsimp only at hSw); go_simp; try with_reducible rfl)
                        try simp only [List.getElem_toArray, List.getElem_cons_succ, List.getElem_cons_zero, Act.put, List.setIfInBounds_toArray, List.set_cons_zero, List.set_cons_succ]
                        refine wpAnyH_take (i := 19) (v := ?_) rfl (by kernel_rfl) (by kernel_rfl) (by kernel_rfl) (fun _ _ _ h => h) (Or.inl ⟨by rfl, ?_⟩) (by assumption) ?_
                        rotate_left
                        · (intro w hSw; (try dsimp only at hSw); go_simp; try with_reducible rfl)
                        try simp only [List.getElem_toArray, List.getElem_cons_succ, List.getElem_cons_zero, Act.put, List.setIfInBounds_toArray, List.set_cons_zero, List.set_cons_succ]
                        refine wpAnyH_take (i := 20) (v := ?_) rfl (by kernel_rfl) (by kernel_rfl) (by kernel_rfl) (fun _ _ _ h => h) (Or.inl ⟨by rfl, ?_⟩) (by assumption) ?_
                        rotate_left
                        · (intro w hSw; (try dsimp only at hSw); go_simp; try with_reducible rfl)
                        try simp only [List.getElem_toArray, List.getElem_cons_succ, List.getElem_cons_zero, Act.put, List.setIfInBounds_toArray, List.set_cons_zero, List.set_cons_succ]
                        refine wpAnyH_take (i := 21) (v := ?_) rfl (by kernel_rfl) (by kernel_rfl) (by kernel_rfl) (fun _ _ _ h => h) (Or.inl ⟨by rfl, ?_⟩) (by assumption) ?_
                        rotate_left
                        · (intro w hSw; (try dsimp only at hSw); go_simp; try with_reducible rfl)
                        try simp only [List.getElem_toArray, List.getElem_cons_succ, List.getElem_cons_zero, Act.put, List.setIfInBounds_toArray, List.set_cons_zero, List.set_cons_succ]
                        refine wpAnyH_ready (rs := [22]) (by kernel_rfl) (by simp) ?_
                        refine AllReadyH.cons rfl (fun K hK => ?_) AllReadyH.nil
                        rw [if_pos (by rfl)]
                        simp only [List.getElem_toArray, List.getElem_cons_succ, List.getElem_cons_zero]
                        go_simp
                        go_at_call 64
                        refine (HCN.out w5).mono ?_
                        rintro e w6 ⟨rfl, hw⟩
                        have HG6 : Hid (Gr wr w6) := Lib.hid (HG5.out.trans hw)
                        clear hw
                        show K _ w6
                        refine hK.out _ _ (KEEP.out _ HG6.out) (fun hHeld => ?_)
                        clear hK K
                        try simp only [List.getElem_toArray, List.getElem_cons_succ, List.getElem_cons_zero, Act.put, List.setIfInBounds_toArray, List.set_cons_zero, List.set_cons_succ]
                        refine wpAnyH_take (i := 23) (v := ?_) rfl (by kernel_rfl) (by kernel_rfl) (by kernel_rfl) (fun _ _ _ h => h) (Or.inl ⟨by rfl, ?_⟩) (by assumption) ?_
                        rotate_left
                        · (intro w hSw; (try dsimp only at hSw); go_simp; try with_reducible rfl)
                        try simp only [List.getElem_toArray, List.getElem_cons_succ, List.getElem_cons_zero, Act.put, List.setIfInBounds_toArray, List.set_cons_zero, List.set_cons_succ]
                        refine wpAnyH_take (i := 24) (v := ?_) rfl (by kernel_rfl) (by kernel_rfl) (by kernel_rfl) (fun _ _ _ h => h) (Or.inl ⟨by rfl, ?_⟩) (by assumption) ?_
                        rotate_left
                        · (intro w hSw; (try dsimp only at hSw); go_simp; try with_reducible rfl)
                        try simp only [List.getElem_toArray, List.getElem_cons_succ, List.getElem_cons_zero, Act.put, List.setIfInBounds_toArray, List.set_cons_zero, List.set_cons_succ]
                        refine wpAnyH_take (i := 25) (v := ?_) rfl (by kernel_rfl) (by kernel_rfl) (by kernel_rfl) (fun _ _ _ h => h) (Or.inl ⟨by rfl, ?_⟩) (by assumption) ?_
                        rotate_left
                        · (intro w hSw; (try dsimp only at hSw); go_simp; try with_reducible rfl)
                        try simp only [List.getElem_toArray, List.getElem_cons_succ, List.getElem_cons_zero, Act.put, List.setIfInBounds_toArray, List.set_cons_zero, List.set_cons_succ]
                        refine wpAnyH_take (i := 26) (v := ?_) rfl (by kernel_rfl) (by kernel_rfl) (by kernel_rfl) (fun _ _ _ h => h) (Or.inl ⟨by rfl, ?_⟩) (by assumption) ?_
                        rotate_left
                        · (intro w hSw; (try dsimp only at hSw); go_simp; try with_reducible rfl)
                        try simp only [List.getElem_toArray, List.getElem_cons_succ, List.getElem_cons_zero, Act.put, List.setIfInBounds_toArray, List.set_cons_zero, List.set_cons_succ]
                        refine wpAnyH_take (i := 27) (v := ?_) rfl (by kernel_rfl) (by kernel_rfl) (by kernel_rfl) (fun _ _ _ h => h) (Or.inl ⟨by rfl, ?_⟩) (by assumption) ?_
                        rotate_left
                        · (intro w hSw; (try dsimp only at hSw); go_simp; try with_reducible rfl)
                        try simp only [List.getElem_toArray, List.getElem_cons_succ, List.getElem_cons_zero, Act.put, List.setIfInBounds_toArray, List.set_cons_zero, List.set_cons_succ]
                        refine wpAnyH_take (i := 28) (v := ?_) rfl (by kernel_rfl) (by kernel_rfl) (by kernel_rfl) (fun _ _ _ h => h) (Or.inl ⟨by rfl, ?_⟩) (by assumption) ?_
                        rotate_left
                        · (intro w hSw; (try dsimp only at hSw); go_simp; try with_reducible rfl)
                        try simp only [List.getElem_toArray, List.getElem_cons_succ, List.getElem_cons_zero, Act.put, List.setIfInBounds_toArray, List.set_cons_zero, List.set_cons_succ]
                        refine wpAnyH_take (i := 29) (v := ?_) rfl (by kernel_rfl) (by kernel_rfl) (by kernel_rfl) (fun _ _ _ h => h) (Or.inl ⟨by rfl, ?_⟩) (by assumption) ?_
                        rotate_left
                        · (intro w hSw; (try dsimp only at hSw); go_simp; try with_reducible rfl)
                        try simp only [List.getElem_toArray, List.getElem_cons_succ, List.getElem_cons_zero, Act.put, List.setIfInBounds_toArray, List.set_cons_zero, List.set_cons_succ]
                        refine wpAnyH_take (i := 30) (v := ?_) rfl (by kernel_rfl) (by kernel_rfl) (by kernel_rfl) (fun _ _ _ h => h) (Or.inl ⟨by rfl, ?_⟩) (by assumption) ?_
                        rotate_left
                        · (intro w hSw; (try dsimp only at hSw); go_simp; try with_reducible rfl)
                        try simp only [List.getElem_toArray, List.getElem_cons_succ, List.getElem_cons_zero, Act.put, List.setIfInBounds_toArray, List.set_cons_zero, List.set_cons_succ]
                        refine wpAnyH_take (i := 31) (v := ?_) rfl (by kernel_rfl) (by kernel_rfl) (by kernel_rfl) (fun _ _ _ h => h) (Or.inl ⟨by rfl, ?_⟩) (by assumption) ?_
                        rotate_left
                        · (intro w hSw; (try dsimp only at hSw); go_simp; try with_reducible rfl)
                        try simp only [List.getElem_toArray, List.getElem_cons_succ, List.getElem_cons_zero, Act.put, List.setIfInBounds_toArray, List.set_cons_zero, List.set_cons_succ]
                        refine wpAnyH_take (i := 32) (v := ?_) rfl (by kernel_rfl) (by kernel_rfl) (by kernel_rfl) (fun _ _ _ h => h) (Or.inl ⟨by rfl, ?_⟩) (by assumption) ?_
                        rotate_left
                        · (intro w hSw; (try dsimp only at hSw); go_simp; try with_reducible rfl)
                        try simp only [List.getElem_toArray, List.getElem_cons_succ, List.getElem_cons_zero, Act.put, List.setIfInBounds_toArray, List.set_cons_zero, List.set_cons_succ]
                        refine wpAnyH_take (i := 33) (v := ?_) rfl (by kernel_rfl) (by kernel_rfl) (by kernel_rfl) (fun _ _ _ h => h) (Or.inl ⟨by rfl, ?_⟩) (by assumption) ?_
                        rotate_left
                        · (intro w hSw; (try dsimp only at hSw); go_simp; try with_reducible rfl)
                        try simp only [List.getElem_toArray, List.getElem_cons_succ, List.getElem_cons_zero, Act.put, List.setIfInBounds_toArray, List.set_cons_zero, List.set_cons_succ]
                        refine wpAnyH_take (i := 34) (v := ?_) rfl (by kernel_rfl) (by kernel_rfl) (by kernel_rfl) (fun _ _ _ h => h) (Or.inl ⟨by rfl, ?_⟩) (by assumption) ?_
                        rotate_left
                        · (intro w hSw; (try dsimp only at hSw); go_simp; try with_reducible rfl)
                        try simp only [List.getElem_toArray, List.getElem_cons_succ, List.getElem_cons_zero, Act.put, List.setIfInBounds_toArray, List.set_cons_zero, List.set_cons_succ]
                        refine wpAnyH_take (i := 35) (v := ?_) rfl (by kernel_rfl) (by kernel_rfl) (by kernel_rfl) (fun _ _ _ h => h) (Or.inl ⟨by rfl, ?_⟩) (by assumption) ?_
                        rotate_left
                        · (intro w hSw; (try dsimp only at hSw); go_simp; try with_reducible rfl)
                        try simp only [List.getElem_toArray, List.getElem_cons_succ, List.getElem_cons_zero, Act.put, List.setIfInBounds_toArray, List.set_cons_zero, List.set_cons_succ]
                        refine wpAnyH_take (i := 36) (v := ?_) rfl (by kernel_rfl) (by kernel_rfl) (by kernel_rfl) (fun _ _ _ h => h) (Or.inl ⟨by rfl, ?_⟩) (by assumption) ?_
                        rotate_left
                        · (intro w hSw; (try dsimp only at hSw); go_simp; try with_reducible rfl)
                        try simp only [List.getElem_toArray, List.getElem_cons_succ, List.getElem_cons_zero, Act.put, List.setIfInBounds_toArray, List.set_cons_zero, List.set_cons_succ]
                        refine wpAnyH_done (by kernel_rfl) ?_ _
                        clear hHeld
                        have HBZ := Lib.hid (HB3.out.trans (HG6.out.below.mono HB3.out.size))
                        clear HCN KEEP
                        obtain ⟨w9, hw9⟩ : ∃ w9, w9 = w6 := ⟨_, rfl⟩
                        have HB9 : Hid (Below w4.heap.size w4 w9) := Lib.hid (by rw [hw9]; exact HBZ.out)
                        rw [← hw9]
                        clear hw9
                        have hk6 := HK4.out.same (same_below HB9.out) hlt4
                        have k0 : w9.cell? ⟨wo.heap.size, 0, none⟩ = some (Value.string (bstr x.item)) := hk6.cell 0
                        have k1 : w9.cell? ⟨wo.heap.size, 1, none⟩ = some (Value.int .i64 x.last) := hk6.cell 1
                        have k2 : w9.cell? ⟨wo.heap.size, 2, none⟩ = some (Value.bool x.urg) := hk6.cell 2
                        have ho6 := own_below HO4.out HB9.out
                        have hb7 := (Below.refl w9.heap.size w9).alloc (Nat.le_refl _) (.cells #[.string (bstr x.item), .int .i64 x.last, .bool x.urg] 103)
                        have HO7 := Lib.hid (own_below ho6 hb7)
                        have HB7 := Lib.hid (HB4.out.trans ((HB9.out.trans (hb7.mono HB9.out.size)).mono HB4.out.size))
                        have hne7 : some w9.heap.size ≠ (Value.slice (some ad2) D.length cD).ownBlock := fun e => by have := (ho6.lt _ e.symm).2; omega
                        have HIN := Lib.hid (insAud_any (.slice (some ad2) D.length cD) D.length (m + 1) w1.heap.size w9.heap.size (D.flatMap audCells) [.string (bstr x.item), .int .i64 x.last, .bool x.urg] (w9.alloc (.cells #[.string (bstr x.item), .int .i64 x.last, .bool x.urg] 103)) HO7.out HB7.out.size (by omega) (by omega) rfl (fun u hu => by simp at hu; rcases hu with rfl | rfl | rfl <;> rfl) (fun u hu => by obtain ⟨z, _, hz⟩ := List.mem_flatMap.1 hu; simp [audCells] at hz; rcases hz with rfl | rfl | rfl <;> rfl) (Blk.new w9 103 [.string (bstr x.item), .int .i64 x.last, .bool x.urg]) hne7)
                        have HD2 : Hid (DueA ev dy (l.take (k + 1)) (D.take (m + 1) ++ x :: D.drop (m + 1))) := Lib.hid (by rw [HST.out]; exact due_put HD.out HLE.out HDX.out (by omega) HUP.out (fun _ => by rw [Nat.add_sub_cancel, getD_at _ _ (show m < D.length by omega), HY.out]; have := HCM.out; omega))
                        have hDn : (D.take (m + 1) ++ x :: D.drop (m + 1)).length = D.length + 1 := by simp only [List.length_append, List.length_cons, List.length_take, List.length_drop]; omega
                        have hDf := due_flat D x (m + 1) (by omega)
                        have HDN := Lib.hid (And.intro hDn hDf)
                        clear hk6 ho6 hb7 hDn hDf hne7
                        go_wp2_with fail
                        refine HIN.out.mono ?_
                        rintro e w8 ⟨g8, c8, rfl, ho8, hg8, _⟩
                        have HO8 : Hid (w8.ownsRow w1.heap.size 103 3 (.slice (some ⟨g8, 0, none⟩) (D.length + 1) c8) (D.take (m + 1) ++ x :: D.drop (m + 1)).length ((D.take (m + 1) ++ x :: D.drop (m + 1)).flatMap audCells)) := Lib.hid (by rw [HDN.out.1, ← HDN.out.2]; exact ho8)
                        have HB8 := Lib.hid (HB7.out.grown hg8 HB7.out.size (fun j hj => (HO7.out.lt j hj).1))
                        clear ho8 hg8 k0 k1 k2 HIN
                        go_wp2_with fail
                        go_roundw
                        case rel => exact ⟨k + 1, _, by omega, by go_num, HL2, HD2, HO8, HB8⟩
                        case measure => simp [intOf]; omega
                    · have n1 : decide (rx < ry) = false := decide_eq_false (by omega)
                      have n1b : ¬ rx < ry := by omega
                      have n2 : (rx == ry) = false := by rw [beq_eq_false_iff_ne]; omega
                      have HCM : Hid (¬ cmpA x y ev dy < 0) := Lib.hid (fun h => by have := hrc.1 h; omega)
                      clear hrc
                      go_wp2_with fail
                      refine wp_region_held_drew (S := fun w' => w'.cell? (ad2.add (m * 3)) = some (.string (bstr y.item)) ∧ w'.cell? ⟨(ad2.add (m * 3)).block, (ad2.add (m * 3)).off + 1, none⟩ = some (.int .i64 y.last) ∧ w'.cell? ⟨(ad2.add (m * 3)).block, (ad2.add (m * 3)).off + 2, none⟩ = some (.bool y.urg) ∧ w'.cell? ⟨wo.heap.size, 1, none⟩ = some (.int .i64 x.last)) (by kernel_rfl) (KEEP.out wr (Gr.refl wr)) (fun hHeld => ?_)
                      obtain ⟨wq, hwq⟩ : ∃ wq, wq = wr.drew := ⟨_, rfl⟩
                      have HGq : Hid (Gr wr wq) := Lib.hid (by rw [hwq]; exact (Gr.refl wr).drew)
                      rw [← hwq] at hHeld ⊢
                      clear hwq
                      refine wpAnyH_take (i := 0) (v := ?_) rfl (by kernel_rfl) (by kernel_rfl) (by kernel_rfl) (fun _ _ _ h => h) (Or.inl ⟨by rfl, ?_⟩) (by assumption) ?_
                      rotate_left
                      · (intro w hSw; (try dsimp only at hSw); go_simp; try with_reducible rfl)
                      try simp only [List.getElem_toArray, List.getElem_cons_succ, List.getElem_cons_zero, Act.put, List.setIfInBounds_toArray, List.set_cons_zero, List.set_cons_succ]
                      refine wpAnyH_take (i := 1) (v := ?_) rfl (by kernel_rfl) (by kernel_rfl) (by kernel_rfl) (fun _ _ _ h => h) (Or.inl ⟨by rfl, ?_⟩) (by assumption) ?_
                      rotate_left
                      · (intro w hSw; (try dsimp only at hSw); go_simp; try with_reducible rfl)
                      try simp only [List.getElem_toArray, List.getElem_cons_succ, List.getElem_cons_zero, Act.put, List.setIfInBounds_toArray, List.set_cons_zero, List.set_cons_succ]
                      refine wpAnyH_take (i := 2) (v := ?_) rfl (by kernel_rfl) (by kernel_rfl) (by kernel_rfl) (fun _ _ _ h => h) (Or.inl ⟨by rfl, ?_⟩) (by assumption) ?_
                      rotate_left
                      · (intro w hSw; (try dsimp only at hSw); go_simp; try with_reducible rfl)
                      try simp only [List.getElem_toArray, List.getElem_cons_succ, List.getElem_cons_zero, Act.put, List.setIfInBounds_toArray, List.set_cons_zero, List.set_cons_succ]
                      refine wpAnyH_take (i := 3) (v := ?_) rfl (by kernel_rfl) (by kernel_rfl) (by kernel_rfl) (fun _ _ _ h => h) (Or.inl ⟨by rfl, ?_⟩) (by assumption) ?_
                      rotate_left
                      · (intro w hSw; (try dsimp only at hSw); go_simp; try with_reducible rfl)
                      try simp only [List.getElem_toArray, List.getElem_cons_succ, List.getElem_cons_zero, Act.put, List.setIfInBounds_toArray, List.set_cons_zero, List.set_cons_succ]
                      refine wpAnyH_take (i := 4) (v := ?_) rfl (by kernel_rfl) (by kernel_rfl) (by kernel_rfl) (fun _ _ _ h => h) (Or.inl ⟨by rfl, ?_⟩) (by assumption) ?_
                      rotate_left
                      · (intro w hSw; (try dsimp only at hSw); go_simp; try with_reducible rfl)
                      try simp only [List.getElem_toArray, List.getElem_cons_succ, List.getElem_cons_zero, Act.put, List.setIfInBounds_toArray, List.set_cons_zero, List.set_cons_succ]
                      refine wpAnyH_take (i := 5) (v := ?_) rfl (by kernel_rfl) (by kernel_rfl) (by kernel_rfl) (fun _ _ _ h => h) (Or.inl ⟨by rfl, ?_⟩) (by assumption) ?_
                      rotate_left
                      · (intro w hSw; (try dsimp only at hSw); go_simp; try with_reducible rfl)
                      try simp only [List.getElem_toArray, List.getElem_cons_succ, List.getElem_cons_zero, Act.put, List.setIfInBounds_toArray, List.set_cons_zero, List.set_cons_succ]
                      refine wpAnyH_take (i := 6) (v := ?_) rfl (by kernel_rfl) (by kernel_rfl) (by kernel_rfl) (fun _ _ _ h => h) (Or.inl ⟨by rfl, ?_⟩) (by assumption) ?_
                      rotate_left
                      · (intro w hSw; (try dsimp only at hSw); go_simp; try with_reducible rfl)
                      try simp only [List.getElem_toArray, List.getElem_cons_succ, List.getElem_cons_zero, Act.put, List.setIfInBounds_toArray, List.set_cons_zero, List.set_cons_succ]
                      refine wpAnyH_take (i := 7) (v := ?_) rfl (by kernel_rfl) (by kernel_rfl) (by kernel_rfl) (fun _ _ _ h => h) (Or.inl ⟨by rfl, ?_⟩) (by assumption) ?_
                      rotate_left
                      · (intro w hSw; (try dsimp only at hSw); go_simp; try with_reducible rfl)
                      try simp only [List.getElem_toArray, List.getElem_cons_succ, List.getElem_cons_zero, Act.put, List.setIfInBounds_toArray, List.set_cons_zero, List.set_cons_succ]
                      refine wpAnyH_take (i := 8) (v := ?_) rfl (by kernel_rfl) (by kernel_rfl) (by kernel_rfl) (fun _ _ _ h => h) (Or.inl ⟨by rfl, ?_⟩) (by assumption) ?_
                      rotate_left
                      · (intro w hSw; (try dsimp only at hSw); go_simp; try with_reducible rfl)
                      try simp only [List.getElem_toArray, List.getElem_cons_succ, List.getElem_cons_zero, Act.put, List.setIfInBounds_toArray, List.set_cons_zero, List.set_cons_succ]
                      refine wpAnyH_take (i := 9) (v := ?_) rfl (by kernel_rfl) (by kernel_rfl) (by kernel_rfl) (fun _ _ _ h => h) (Or.inl ⟨by rfl, ?_⟩) (by assumption) ?_
                      rotate_left
                      · (intro w hSw; (try dsimp only at hSw); go_simp; try with_reducible rfl)
                      try simp only [List.getElem_toArray, List.getElem_cons_succ, List.getElem_cons_zero, Act.put, List.setIfInBounds_toArray, List.set_cons_zero, List.set_cons_succ]
                      refine wpAnyH_take (i := 10) (v := ?_) rfl (by kernel_rfl) (by kernel_rfl) (by kernel_rfl) (fun _ _ _ h => h) (Or.inl ⟨by rfl, ?_⟩) (by assumption) ?_
                      rotate_left
                      · (intro w hSw; (try dsimp only at hSw); go_simp; try with_reducible rfl)
                      try simp only [List.getElem_toArray, List.getElem_cons_succ, List.getElem_cons_zero, Act.put, List.setIfInBounds_toArray, List.set_cons_zero, List.set_cons_succ]
                      refine wpAnyH_ready (rs := [11]) (by kernel_rfl) (by simp) ?_
                      refine AllReadyH.cons rfl (fun K hK => ?_) AllReadyH.nil
                      rw [if_pos (by rfl)]
                      simp only [List.getElem_toArray, List.getElem_cons_succ, List.getElem_cons_zero]
                      go_simp
                      go_at_call 64
                      refine (HCN.out wq).mono ?_
                      rintro e w5 ⟨rfl, hw⟩
                      have HG5 : Hid (Gr wr w5) := Lib.hid (HGq.out.trans hw)
                      clear hw
                      show K _ w5
                      refine hK.out _ _ (KEEP.out _ HG5.out) (fun hHeld => ?_)
                      clear hK K
                      try simp only [List.getElem_toArray, List.getElem_cons_succ, List.getElem_cons_zero, Act.put, List.setIfInBounds_toArray, List.set_cons_zero, List.set_cons_succ]
                      refine wpAnyH_take (i := 12) (v := ?_) rfl (by kernel_rfl) (by kernel_rfl) (by kernel_rfl) (fun _ _ _ h => h) (Or.inl ⟨by rfl, ?_⟩) (by assumption) ?_
                      rotate_left
                      · (intro w hSw; (try dsimp only at hSw); go_simp; try with_reducible rfl)
                      try simp only [List.getElem_toArray, List.getElem_cons_succ, List.getElem_cons_zero, Act.put, List.setIfInBounds_toArray, List.set_cons_zero, List.set_cons_succ]
                      refine wpAnyH_take (i := 13) (v := ?_) rfl (by kernel_rfl) (by kernel_rfl) (by kernel_rfl) (fun _ _ _ h => h) (Or.inl ⟨by rfl, ?_⟩) (by assumption) ?_
                      rotate_left
                      · (intro w hSw; (try dsimp only at hSw); go_simp; try with_reducible rfl)
                      try simp only [List.getElem_toArray, List.getElem_cons_succ, List.getElem_cons_zero, Act.put, List.setIfInBounds_toArray, List.set_cons_zero, List.set_cons_succ]
                      refine wpAnyH_take (i := 14) (v := ?_) rfl (by kernel_rfl) (by kernel_rfl) (by kernel_rfl) (fun _ _ _ h => h) (Or.inl ⟨by rfl, ?_⟩) (by assumption) ?_
                      rotate_left
                      · (intro w hSw; (try dsimp only at hSw); go_simp; try with_reducible rfl)
                      try simp only [List.getElem_toArray, List.getElem_cons_succ, List.getElem_cons_zero, Act.put, List.setIfInBounds_toArray, List.set_cons_zero, List.set_cons_succ]
                      refine wpAnyH_take (i := 15) (v := ?_) rfl (by kernel_rfl) (by kernel_rfl) (by kernel_rfl) (fun _ _ _ h => h) (Or.inl ⟨by rfl, ?_⟩) (by assumption) ?_
                      rotate_left
                      · (intro w hSw; (try dsimp only at hSw); go_simp; try with_reducible rfl)
                      try simp only [List.getElem_toArray, List.getElem_cons_succ, List.getElem_cons_zero, Act.put, List.setIfInBounds_toArray, List.set_cons_zero, List.set_cons_succ]
                      refine wpAnyH_take (i := 16) (v := ?_) rfl (by kernel_rfl) (by kernel_rfl) (by kernel_rfl) (fun _ _ _ h => h) (Or.inl ⟨by rfl, ?_⟩) (by assumption) ?_
                      rotate_left
                      · (intro w hSw; (try dsimp only at hSw); go_simp; try with_reducible rfl)
                      try simp only [List.getElem_toArray, List.getElem_cons_succ, List.getElem_cons_zero, Act.put, List.setIfInBounds_toArray, List.set_cons_zero, List.set_cons_succ]
                      refine wpAnyH_take (i := 17) (v := ?_) rfl (by kernel_rfl) (by kernel_rfl) (by kernel_rfl) (fun _ _ _ h => h) (Or.inl ⟨by rfl, ?_⟩) (by assumption) ?_
                      rotate_left
                      · (intro w hSw; (try dsimp only at hSw); go_simp; try with_reducible rfl)
                      try simp only [List.getElem_toArray, List.getElem_cons_succ, List.getElem_cons_zero, Act.put, List.setIfInBounds_toArray, List.set_cons_zero, List.set_cons_succ]
                      refine wpAnyH_take (i := 18) (v := ?_) rfl (by kernel_rfl) (by kernel_rfl) (by kernel_rfl) (fun _ _ _ h => h) (Or.inl ⟨by rfl, ?_⟩) (by assumption) ?_
                      rotate_left
                      · (intro w hSw; (try dsimp only at hSw); go_simp; try with_reducible rfl)
                      try simp only [List.getElem_toArray, List.getElem_cons_succ, List.getElem_cons_zero, Act.put, List.setIfInBounds_toArray, List.set_cons_zero, List.set_cons_succ]
                      refine wpAnyH_take (i := 19) (v := ?_) rfl (by kernel_rfl) (by kernel_rfl) (by kernel_rfl) (fun _ _ _ h => h) (Or.inl ⟨by rfl, ?_⟩) (by assumption) ?_
                      rotate_left
                      · (intro w hSw; (try dsimp only at hSw); go_simp; try with_reducible rfl)
                      try simp only [List.getElem_toArray, List.getElem_cons_succ, List.getElem_cons_zero, Act.put, List.setIfInBounds_toArray, List.set_cons_zero, List.set_cons_succ]
                      refine wpAnyH_take (i := 20) (v := ?_) rfl (by kernel_rfl) (by kernel_rfl) (by kernel_rfl) (fun _ _ _ h => h) (Or.inl ⟨by rfl, ?_⟩) (by assumption) ?_
                      rotate_left
                      · (intro w hSw; (try dsimp only at hSw); go_simp; try with_reducible rfl)
                      try simp only [List.getElem_toArray, List.getElem_cons_succ, List.getElem_cons_zero, Act.put, List.setIfInBounds_toArray, List.set_cons_zero, List.set_cons_succ]
                      refine wpAnyH_take (i := 21) (v := ?_) rfl (by kernel_rfl) (by kernel_rfl) (by kernel_rfl) (fun _ _ _ h => h) (Or.inl ⟨by rfl, ?_⟩) (by assumption) ?_
                      rotate_left
                      · (intro w hSw; (try dsimp only at hSw); go_simp; try with_reducible rfl)
                      try simp only [List.getElem_toArray, List.getElem_cons_succ, List.getElem_cons_zero, Act.put, List.setIfInBounds_toArray, List.set_cons_zero, List.set_cons_succ]
                      refine wpAnyH_ready (rs := [22]) (by kernel_rfl) (by simp) ?_
                      refine AllReadyH.cons rfl (fun K hK => ?_) AllReadyH.nil
                      rw [if_pos (by rfl)]
                      simp only [List.getElem_toArray, List.getElem_cons_succ, List.getElem_cons_zero]
                      go_simp
                      go_at_call 64
                      refine (HCN.out w5).mono ?_
                      rintro e w6 ⟨rfl, hw⟩
                      have HG6 : Hid (Gr wr w6) := Lib.hid (HG5.out.trans hw)
                      clear hw
                      show K _ w6
                      refine hK.out _ _ (KEEP.out _ HG6.out) (fun hHeld => ?_)
                      clear hK K
                      try simp only [List.getElem_toArray, List.getElem_cons_succ, List.getElem_cons_zero, Act.put, List.setIfInBounds_toArray, List.set_cons_zero, List.set_cons_succ]
                      refine wpAnyH_take (i := 23) (v := ?_) rfl (by kernel_rfl) (by kernel_rfl) (by kernel_rfl) (fun _ _ _ h => h) (Or.inl ⟨by rfl, ?_⟩) (by assumption) ?_
                      rotate_left
                      · (intro w hSw; (try dsimp only at hSw); go_simp; try with_reducible rfl)
                      try simp only [List.getElem_toArray, List.getElem_cons_succ, List.getElem_cons_zero, Act.put, List.setIfInBounds_toArray, List.set_cons_zero, List.set_cons_succ]
                      refine wpAnyH_take (i := 24) (v := ?_) rfl (by kernel_rfl) (by kernel_rfl) (by kernel_rfl) (fun _ _ _ h => h) (Or.inl ⟨by rfl, ?_⟩) (by assumption) ?_
                      rotate_left
                      · (intro w hSw; (try dsimp only at hSw); go_simp; try with_reducible rfl)
                      try simp only [List.getElem_toArray, List.getElem_cons_succ, List.getElem_cons_zero, Act.put, List.setIfInBounds_toArray, List.set_cons_zero, List.set_cons_succ]
                      refine wpAnyH_take (i := 25) (v := undef) rfl (by kernel_rfl) (by kernel_rfl) (by kernel_rfl) (fun _ _ _ h => h) (Or.inr ⟨by rfl, rfl⟩) (by assumption) ?_
                      try simp only [List.getElem_toArray, List.getElem_cons_succ, List.getElem_cons_zero, Act.put, List.setIfInBounds_toArray, List.set_cons_zero, List.set_cons_succ]
                      refine wpAnyH_take (i := 26) (v := undef) rfl (by kernel_rfl) (by kernel_rfl) (by kernel_rfl) (fun _ _ _ h => h) (Or.inr ⟨by rfl, rfl⟩) (by assumption) ?_
                      try simp only [List.getElem_toArray, List.getElem_cons_succ, List.getElem_cons_zero, Act.put, List.setIfInBounds_toArray, List.set_cons_zero, List.set_cons_succ]
                      refine wpAnyH_take (i := 27) (v := undef) rfl (by kernel_rfl) (by kernel_rfl) (by kernel_rfl) (fun _ _ _ h => h) (Or.inr ⟨by rfl, rfl⟩) (by assumption) ?_
                      try simp only [List.getElem_toArray, List.getElem_cons_succ, List.getElem_cons_zero, Act.put, List.setIfInBounds_toArray, List.set_cons_zero, List.set_cons_succ]
                      refine wpAnyH_take (i := 28) (v := undef) rfl (by kernel_rfl) (by kernel_rfl) (by kernel_rfl) (fun _ _ _ h => h) (Or.inr ⟨by rfl, rfl⟩) (by assumption) ?_
                      try simp only [List.getElem_toArray, List.getElem_cons_succ, List.getElem_cons_zero, Act.put, List.setIfInBounds_toArray, List.set_cons_zero, List.set_cons_succ]
                      refine wpAnyH_take (i := 29) (v := undef) rfl (by kernel_rfl) (by kernel_rfl) (by kernel_rfl) (fun _ _ _ h => h) (Or.inr ⟨by rfl, rfl⟩) (by assumption) ?_
                      try simp only [List.getElem_toArray, List.getElem_cons_succ, List.getElem_cons_zero, Act.put, List.setIfInBounds_toArray, List.set_cons_zero, List.set_cons_succ]
                      refine wpAnyH_take (i := 30) (v := undef) rfl (by kernel_rfl) (by kernel_rfl) (by kernel_rfl) (fun _ _ _ h => h) (Or.inr ⟨by rfl, rfl⟩) (by assumption) ?_
                      try simp only [List.getElem_toArray, List.getElem_cons_succ, List.getElem_cons_zero, Act.put, List.setIfInBounds_toArray, List.set_cons_zero, List.set_cons_succ]
                      refine wpAnyH_take (i := 31) (v := undef) rfl (by kernel_rfl) (by kernel_rfl) (by kernel_rfl) (fun _ _ _ h => h) (Or.inr ⟨by rfl, rfl⟩) (by assumption) ?_
                      try simp only [List.getElem_toArray, List.getElem_cons_succ, List.getElem_cons_zero, Act.put, List.setIfInBounds_toArray, List.set_cons_zero, List.set_cons_succ]
                      refine wpAnyH_take (i := 32) (v := undef) rfl (by kernel_rfl) (by kernel_rfl) (by kernel_rfl) (fun _ _ _ h => h) (Or.inr ⟨by rfl, rfl⟩) (by assumption) ?_
                      try simp only [List.getElem_toArray, List.getElem_cons_succ, List.getElem_cons_zero, Act.put, List.setIfInBounds_toArray, List.set_cons_zero, List.set_cons_succ]
                      refine wpAnyH_take (i := 33) (v := undef) rfl (by kernel_rfl) (by kernel_rfl) (by kernel_rfl) (fun _ _ _ h => h) (Or.inr ⟨by rfl, rfl⟩) (by assumption) ?_
                      try simp only [List.getElem_toArray, List.getElem_cons_succ, List.getElem_cons_zero, Act.put, List.setIfInBounds_toArray, List.set_cons_zero, List.set_cons_succ]
                      refine wpAnyH_take (i := 34) (v := ?_) rfl (by kernel_rfl) (by kernel_rfl) (by kernel_rfl) (fun _ _ _ h => h) (Or.inl ⟨by rfl, ?_⟩) (by assumption) ?_
                      rotate_left
                      · (intro w hSw; (try dsimp only at hSw); go_simp; try with_reducible rfl)
                      try simp only [List.getElem_toArray, List.getElem_cons_succ, List.getElem_cons_zero, Act.put, List.setIfInBounds_toArray, List.set_cons_zero, List.set_cons_succ]
                      refine wpAnyH_take (i := 35) (v := ?_) rfl (by kernel_rfl) (by kernel_rfl) (by kernel_rfl) (fun _ _ _ h => h) (Or.inl ⟨by rfl, ?_⟩) (by assumption) ?_
                      rotate_left
                      · (intro w hSw; (try dsimp only at hSw); go_simp; try with_reducible rfl)
                      try simp only [List.getElem_toArray, List.getElem_cons_succ, List.getElem_cons_zero, Act.put, List.setIfInBounds_toArray, List.set_cons_zero, List.set_cons_succ]
                      refine wpAnyH_take (i := 36) (v := ?_) rfl (by kernel_rfl) (by kernel_rfl) (by kernel_rfl) (fun _ _ _ h => h) (Or.inl ⟨by rfl, ?_⟩) (by assumption) ?_
                      rotate_left
                      · (intro w hSw; (try dsimp only at hSw); go_simp; try with_reducible rfl)
                      try simp only [List.getElem_toArray, List.getElem_cons_succ, List.getElem_cons_zero, Act.put, List.setIfInBounds_toArray, List.set_cons_zero, List.set_cons_succ]
                      refine wpAnyH_done (by kernel_rfl) ?_ _
                      clear hHeld
                      have HBZ := Lib.hid (HB3.out.trans (HG6.out.below.mono HB3.out.size))
                      clear HCN KEEP
                      obtain ⟨w9, hw9⟩ : ∃ w9, w9 = w6 := ⟨_, rfl⟩
                      have HB9 : Hid (Below w4.heap.size w4 w9) := Lib.hid (by rw [hw9]; exact HBZ.out)
                      rw [← hw9]
                      clear hw9
                      have hk6 := HK4.out.same (same_below HB9.out) hlt4
                      have k0 : w9.cell? ⟨wo.heap.size, 0, none⟩ = some (Value.string (bstr x.item)) := hk6.cell 0
                      have k1 : w9.cell? ⟨wo.heap.size, 1, none⟩ = some (Value.int .i64 x.last) := hk6.cell 1
                      have k2 : w9.cell? ⟨wo.heap.size, 2, none⟩ = some (Value.bool x.urg) := hk6.cell 2
                      have ho6 := own_below HO4.out HB9.out
                      have hb7 := (Below.refl w9.heap.size w9).alloc (Nat.le_refl _) (.cells #[.string (bstr x.item), .int .i64 x.last, .bool x.urg] 103)
                      have HO7 := Lib.hid (own_below ho6 hb7)
                      have HB7 := Lib.hid (HB4.out.trans ((HB9.out.trans (hb7.mono HB9.out.size)).mono HB4.out.size))
                      have hne7 : some w9.heap.size ≠ (Value.slice (some ad2) D.length cD).ownBlock := fun e => by have := (ho6.lt _ e.symm).2; omega
                      have HIN := Lib.hid (insAud_any (.slice (some ad2) D.length cD) D.length (m + 1) w1.heap.size w9.heap.size (D.flatMap audCells) [.string (bstr x.item), .int .i64 x.last, .bool x.urg] (w9.alloc (.cells #[.string (bstr x.item), .int .i64 x.last, .bool x.urg] 103)) HO7.out HB7.out.size (by omega) (by omega) rfl (fun u hu => by simp at hu; rcases hu with rfl | rfl | rfl <;> rfl) (fun u hu => by obtain ⟨z, _, hz⟩ := List.mem_flatMap.1 hu; simp [audCells] at hz; rcases hz with rfl | rfl | rfl <;> rfl) (Blk.new w9 103 [.string (bstr x.item), .int .i64 x.last, .bool x.urg]) hne7)
                      have HD2 : Hid (DueA ev dy (l.take (k + 1)) (D.take (m + 1) ++ x :: D.drop (m + 1))) := Lib.hid (by rw [HST.out]; exact due_put HD.out HLE.out HDX.out (by omega) HUP.out (fun _ => by rw [Nat.add_sub_cancel, getD_at _ _ (show m < D.length by omega), HY.out]; have := HCM.out; omega))
                      have hDn : (D.take (m + 1) ++ x :: D.drop (m + 1)).length = D.length + 1 := by simp only [List.length_append, List.length_cons, List.length_take, List.length_drop]; omega
                      have hDf := due_flat D x (m + 1) (by omega)
                      have HDN := Lib.hid (And.intro hDn hDf)
                      clear hk6 ho6 hb7 hDn hDf hne7
                      go_wp2_with fail
                      refine HIN.out.mono ?_
                      rintro e w8 ⟨g8, c8, rfl, ho8, hg8, _⟩
                      have HO8 : Hid (w8.ownsRow w1.heap.size 103 3 (.slice (some ⟨g8, 0, none⟩) (D.length + 1) c8) (D.take (m + 1) ++ x :: D.drop (m + 1)).length ((D.take (m + 1) ++ x :: D.drop (m + 1)).flatMap audCells)) := Lib.hid (by rw [HDN.out.1, ← HDN.out.2]; exact ho8)
                      have HB8 := Lib.hid (HB7.out.grown hg8 HB7.out.size (fun j hj => (HO7.out.lt j hj).1))
                      clear ho8 hg8 k0 k1 k2 HIN
                      go_wp2_with fail
                      go_roundw
                      case rel => exact ⟨k + 1, _, by omega, by go_num, HL2, HD2, HO8, HB8⟩
                      case measure => simp [intOf]; omega
        · obtain rfl : k = l.length := by omega
          have hl0 : lateA dy l = false := by have := HLT.out; rwa [List.take_length] at this
          have HF2 : Hid (audFault l ev most dy = 0) := Lib.hid (HF.out.trans (if_neg (by rw [hl0]; decide)))
          have HDUE : Hid (DueA ev dy l D) := Lib.hid (by have := HD.out; rwa [List.take_length] at this)
          have HIT : Hid (∀ s ∈ D, s.item.length ≤ maxLen ∧ (Lit.int .i64 s.last).wf = true) := Lib.hid (fun s hs => by
            have := HLA.out s (due_mem HDUE.out hs).1
            exact ⟨by unfold maxLen; omega, WalkArith.wf_i64 (by omega)⟩)
          have HR5 := Lib.hid (auds_read HO.out HIT.out)
          obtain ⟨A5, c5, rfl, hc5, hcm5, _⟩ := own_form HO.out
          unfold maxLen at hcm5
          have HB5 := Lib.hid (HB.out.trans (HX.out.mono HB.out.size))
          clear HLT HD HX HO HSRT HLA HF hl0
          obtain ⟨mo, rfl⟩ : ∃ mo : Nat, most = (mo : Int) := ⟨most.toNat, by omega⟩
          have hol : D.length ≤ 3000 := by omega
          obtain ⟨M, hM⟩ : ∃ M, M = min mo D.length := ⟨_, rfl⟩
          have hMo : M ≤ D.length := by omega
          have HOUT : Hid ((D.take M).map (fun x => bstr x.item) = audOut (mo : Int) D) := Lib.hid (audOut_row rfl (by rw [Int.toNat_natCast]; exact hM))
          have hmin : min (mo : Int) (D.length : Int) = (M : Int) := by omega
          have HMI := Lib.hid hM
          clear hM hDl
          go_wp2_with fail
          go_loopw [17, 138] (fun vo vi wx => ∃ k : Nat, k ≤ M ∧ vi = .int .i64 k ∧ Hid (wx.ownsRow wo.heap.size 9 1 vo k ((D.take k).map fun x => Value.string (bstr x.item))) ∧ Hid (Below wo.heap.size wo wx)) (fun _ vi _ => M - (intOf vi).toNat)
          case atStart => exact ⟨0, by omega, rfl, World.ownsRow_nil _ _ _ _, Below.refl _ _⟩
          case round =>
            obtain ⟨k, hk, rfl, HO, HX⟩ := hrel
            by_cases hlt : k < M
            · have hlo : k < D.length := by omega
              obtain ⟨ad, c', e1, hadb, c0, c1, c2, hz1, _⟩ := aud_at (Rp.below _ HR5.out HX.out) hlo
              injection e1 with e1 _ e3
              subst e1 e3
              obtain ⟨AO, cO, rfl, _⟩ := own_form HO.out
              have HST : Hid ((D.take (k + 1)).map (fun x => Value.string (bstr x.item)) = (D.take k).map (fun x => Value.string (bstr x.item)) ++ [.string (bstr D[k].item)]) := Lib.hid (by rw [List.take_succ_eq_append_getElem hlo, List.map_append]; rfl)
              clear hadb
              generalize D[k] = x at *
              have hkb := Blk.new wr 103 [.string (bstr x.item), .int .i64 x.last, .bool x.urg]
              have k0 : _ = some (Value.string (bstr x.item)) := hkb.cell 0
              have hbw := (Below.refl wr.heap.size wr).alloc (Nat.le_refl _) (.cells #[.string (bstr x.item), .int .i64 x.last, .bool x.urg] 103)
              have HBX := Lib.hid (HX.out.alloc HX.out.size (.cells #[.string (bstr x.item), .int .i64 x.last, .bool x.urg] 103))
              have HOA := Lib.hid (HO.out.kept (below_grown hbw) (by cases hvv : (Value.slice AO k cO).ownBlock <;> simp))
              have hsza : wo.heap.size ≤ (wr.alloc (.cells #[.string (bstr x.item), .int .i64 x.last, .bool x.urg] 103)).heap.size := HBX.out.size
              clear hkb hbw HO HX
              go_wp2_with (at_builtin; refine app_str rfl (.tmp 142) (.tmp 145) rfl HOA.out hsza rfl (by rw [World.size_alloc]; rfl) (by omega) ?_; intro g1 cc1 w9 HO9 HG9 HB9 HL9)
              go_roundw
              case rel => exact ⟨k + 1, by omega, by go_num, by rw [HST.out]; exact HO9.out, HB9.out _ HBX.out⟩
              case measure => simp [intOf]; omega
            · obtain rfl : k = M := by omega
              obtain ⟨AO, cO, rfl, _⟩ := own_form HO.out
              have HP : Hid (AudPost l ev (mo : Int) dy w (.returned (.tuple #[.slice AO k cO, .int .i64 0])) wr) := Lib.hid ⟨_, (D.take k).map (fun x => bstr x.item), by rw [HF2.out], Rp.str_own (n := k) (by rw [List.map_map]; exact HO.out) (fun x hx => by obtain ⟨y, hy, rfl⟩ := List.mem_map.1 hx; rw [bstr_size]; exact (HIT.out y (List.mem_of_mem_take hy)).1) (fun g hg => (HO.out.lt g hg).2), HB5.out.trans (HX.out.mono HB5.out.size), fun h => absurd HF2.out h, fun _ => ⟨D, HDUE.out, HOUT.out⟩⟩
              clear HO HX
              go_wp2_with fail
              go_ret2
              exact HP.out
end Go.Proofs.YtbafnemcdhdagaaDoor
