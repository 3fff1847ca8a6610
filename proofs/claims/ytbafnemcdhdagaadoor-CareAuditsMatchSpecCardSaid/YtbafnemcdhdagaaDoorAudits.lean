/-
  'Audits' of care.
-/
import Derived.Test.YtbafnemcdhdagaaDoorProg
import Derived.Test.YtbafnemcdhdagaaDoorAudSort
import Derived.Test.YtbafnemcdhdagaaDoorStr
namespace Go.Proofs.YtbafnemcdhdagaaDoor
open Go.RowKit Go.Sort
set_option linter.unusedVariables false
set_option linter.unusedSimpArgs false

def AudPost (l : List Aud) (ev most dy : Int) (w : World) (e : Ending) (w' : World) : Prop :=
  ∃ v' outs, e = .returned (.tuple #[v', .int .i64 (audFault l ev most dy)]) ∧ (Rp.sl Rp.str).ok w' (· < w'.heap.size) [v'] outs ∧ Below w.heap.size w w' ∧ (audFault l ev most dy ≠ 0 → outs = []) ∧ (audFault l ev most dy = 0 → ∃ out, DueA ev dy l out ∧ outs = audOut most out)
theorem AudPost.bad {l : List Aud} {ev most dy : Int} {w w' : World} {f : Int} (h : audFault l ev most dy = f) (h0 : f ≠ 0) (hb : Below w.heap.size w w') : AudPost l ev most dy w (.returned (.tuple #[.slice none 0 0, .int .i64 f])) w' :=
  ⟨_, [], by rw [h], Rp.sl_nil _ _ _, hb, fun _ => rfl, fun h' => absurd (h.symm.trans h') h0⟩
theorem audOut_row {out : List Aud} {N M : Nat} {mo : Int} (hN : out.length = N) (hM : M = min mo.toNat N) : (out.take M).map (fun x => bstr x.item) = audOut mo out := by
  unfold audOut
  rw [hM, ← hN]
  congr 1
  rcases Nat.le_total mo.toNat out.length with h | h
  · rw [Nat.min_eq_left h]
  · rw [Nat.min_eq_right h, List.take_length, List.take_of_length_le h]
set_option maxRecDepth 100000 in
set_option maxHeartbeats 8000000 in
theorem audits_any (v : Value) (l : List Aud) (ev most dy : Int) (w : World) (h : (Rp.sl audRp).ok w (· < w.heap.size) [v] l) :
    Calls Tryd.prog 19 #[v, .int .i64 ev, .int .i64 most, .int .i64 dy] w (AudPost l ev most dy w) := by
  obtain ⟨A, c, rfl, hl, hc, _⟩ := Rp.sl_open h
  unfold maxLen at hc
  have hab := ((Below.refl w.heap.size w).alloc (Nat.le_refl _) (.cells #[.int .i64 ev] 3)).alloc (by simp) (.cells #[.int .i64 dy] 3)
  by_cases h5 : 3000 < l.length
  · have HP := Lib.hid (AudPost.bad (w := w) (l := l) (ev := ev) (most := most) (dy := dy) (show audFault l ev most dy = 2 from if_pos h5) (by decide) hab)
    have h5' : (3000 : Int) < (l.length : Int) := by omega
    clear h hab
    go_enter Tryd.func19, Tryd.ntmps19
    go_wp2_with fail
    go_ret2
    exact HP.out
  have h5' : ¬ (3000 : Int) < (l.length : Int) := by omega
  have H0 := Lib.hid h
  obtain ⟨w2, hw2⟩ : ∃ w2, w2 = (w.alloc (.cells #[.int .i64 ev] 3)).alloc (.cells #[.int .i64 dy] 3) := ⟨_, rfl⟩
  have HKE : Hid (Blk w2 w.heap.size 3 [.int .i64 ev]) := Lib.hid (by rw [hw2]; exact Blk.same (Blk.new w 3 [.int .i64 ev]) (same_below ((Below.refl _ _).alloc (Nat.le_refl _) _)) (by simp))
  have HKD : Hid (Blk w2 (w.heap.size + 1) 3 [.int .i64 dy]) := Lib.hid (by
    rw [hw2]
    have := Blk.new (w.alloc (.cells #[.int .i64 ev] 3)) 3 [.int .i64 dy]
    rw [World.size_alloc] at this
    exact this)
  rw [← hw2] at hab
  have HAB := Lib.hid hab
  have H2 := Lib.hid (Rp.ext _ h hab)
  have hs2 : w.heap.size + 1 < w2.heap.size := by rw [hw2]; simp
  clear h hab
  go_enter Tryd.func19, Tryd.ntmps19
  go_wp2_with fail
  rw [← hw2]
  clear hw2
  go_loopw [10, 22] (fun vc vi wr => ∃ k : Nat, k ≤ l.length ∧ vi = .int .i64 k ∧ vc = .bool (lateA dy (l.take k)) ∧ Hid (∀ j, j < k → audF l j = 0) ∧ Hid (Below w2.heap.size w2 wr)) (fun _ vi _ => l.length - (intOf vi).toNat)
  case atStart => exact ⟨0, by omega, rfl, rfl, (fun j hj => absurd hj (by omega)), Below.refl _ _⟩
  case round =>
    obtain ⟨k, hk, rfl, rfl, HS, HB⟩ := hrel
    by_cases hlt : k < l.length
    · obtain ⟨ad, c', e1, hadb, c0, c1, c2, hz1, hz2⟩ := aud_at (Rp.below _ H2.out HB.out) hlt
      cases e1
      have F1 := Lib.hid (fun h => audFault_at (ev := ev) (most := most) (dy := dy) h5 hlt HS.out (audF_1 hlt h) (by decide))
      have F2 := Lib.hid (fun h h0 h2 => audFault_at (ev := ev) (most := most) (dy := dy) h5 hlt HS.out (audF_2 hlt h h0 h2) (by decide))
      have F3 := Lib.hid (fun h h2 h3 => audFault_at (ev := ev) (most := most) (dy := dy) h5 hlt HS.out (audF_3 hlt h h2 h3) (by decide))
      have F4 := Lib.hid (fun h h2 h3 => firstF_step HS.out (audF_4 hlt h h2 h3))
      have HLT : Hid (lateA dy (l.take (k + 1)) = (lateA dy (l.take k) || decide (dy < l[k].last))) := Lib.hid (by rw [List.take_succ_eq_append_getElem hlt, lateA_snoc])
      clear hadb
      generalize lateA dy (l.take k) = lt0 at *
      generalize l[k] = x at *
      have HHB := Lib.hid (HB.out.alloc HB.out.size (.cells #[.string (bstr x.item), .int .i64 x.last, .bool x.urg] 103))
      have HKB := Lib.hid (Blk.new wr 103 [.string (bstr x.item), .int .i64 x.last, .bool x.urg])
      have k0 : _ = some (Value.string (bstr x.item)) := HKB.out.cell 0
      have hlt1 : wr.heap.size < (wr.alloc (.cells #[.string (bstr x.item), .int .i64 x.last, .bool x.urg] 103)).heap.size := by simp
      go_wp2_with fail
      refine (isName_any x.item _ hz1).mono ?_
      rintro e w5 ⟨rfl, hb5⟩
      have HB5 := Lib.hid (HHB.out.trans (hb5.mono HHB.out.size))
      have hk5 := HKB.out.same (same_below hb5) hlt1
      have d0 : w5.cell? ⟨wr.heap.size, 0, none⟩ = some (Value.string (bstr x.item)) := hk5.cell 0
      have D1 : Hid (w5.cell? ⟨wr.heap.size, 1, none⟩ = some (Value.int .i64 x.last)) := Lib.hid (hk5.cell 1)
      have D2 : Hid (w5.cell? ⟨w.heap.size + 1, 0, none⟩ = some (.int .i64 dy)) := Lib.hid ((HKD.out.same (same_below HB5.out) hs2).cell 0)
      clear hb5 hk5 k0 HKB HHB hlt1 c0 c1 c2
      cases hnm : isNm x.item with
      | false =>
        have HF := F1.out hnm
        clear F1 F2 F3 F4 hnm
        have HP := Lib.hid (AudPost.bad (w := w) HF (by decide) (HAB.out.trans (HB5.out.mono HAB.out.size)))
        go_wp2_with fail
        go_ret2
        exact HP.out
      | true =>
        have HN := Lib.hid hnm
        clear hnm F1
        by_cases hk0 : k = 0
        · have F3b := Lib.hid (fun h => F3.out HN.out (fun h => absurd h.1 (by omega)) h)
          have F4b := Lib.hid (fun h => F4.out HN.out (fun h => absurd h.1 (by omega)) h)
          clear F2 F3 F4
          rename Hid (_ → audFault _ _ _ _ = 1) => F3
          rename Hid (_ → ∀ _, _) => F4
          have hk0' : ¬ (0 : Int) < (k : Int) := by omega
          have hk0n : ¬ 0 < k := by omega
          clear hk0
          go_wp2_with fail
          go_quiet (fail)
          obtain ⟨w6, hw6⟩ : ∃ w6, w6 = w5.drewN nq := ⟨_, rfl⟩
          have HB6 : Hid (Below w2.heap.size w2 w6) := Lib.hid (by rw [hw6]; exact below_drewN HB5.out nq)
          have q1 : w6.cell? ⟨wr.heap.size, 1, none⟩ = some (.int .i64 x.last) := by rw [hw6]; exact D1.out
          have q2 : w6.cell? ⟨w.heap.size + 1, 0, none⟩ = some (.int .i64 dy) := by rw [hw6]; exact D2.out
          rw [← hw6]
          clear hw6 d0
          go_wp2_with fail
          refine (cwithin_any _ _ _ _).mono ?_
          rintro e w7 ⟨rfl, rfl⟩
          cases hwi : withinB x.last (-1) 3000000 with
          | false =>
            have HF := F3.out hwi
            clear F3 F4 hwi
            have HP := Lib.hid (AudPost.bad (w := w) HF (by decide) (HAB.out.trans (HB6.out.mono HAB.out.size)))
            go_wp2_with fail
            go_ret2
            exact HP.out
          | true =>
            have F5 := Lib.hid (F4.out hwi)
            clear F3 F4 hwi
            cases lt0 with
            | true =>
              have HL2 := Lib.hid (HLT.out.trans (Bool.true_or _))
              go_wp2_with fail
              go_roundw
              case rel => exact ⟨k + 1, by omega, by go_num, by rw [HL2.out], F5.out, HB6.out⟩
              case measure => simp [intOf]; omega
            | false =>
              by_cases hld : dy < x.last
              · have hgt : decide (x.last > dy) = true := decide_eq_true hld
                have HL2 := Lib.hid (HLT.out.trans (by rw [decide_eq_true hld]; rfl : (false || decide (dy < x.last)) = true))
                go_wp2_with fail
                go_roundw
                case rel => exact ⟨k + 1, by omega, by go_num, by rw [HL2.out], F5.out, HB6.out⟩
                case measure => simp [intOf]; omega
              · have hgt : decide (x.last > dy) = false := decide_eq_false hld
                have HL2 := Lib.hid (HLT.out.trans (by rw [decide_eq_false hld]; rfl : (false || decide (dy < x.last)) = false))
                go_wp2_with fail
                go_roundw
                case rel => exact ⟨k + 1, by omega, by go_num, by rw [HL2.out], F5.out, HB6.out⟩
                case measure => simp [intOf]; omega
        · obtain ⟨m, rfl⟩ : ∃ m, k = m + 1 := ⟨k - 1, by omega⟩
          have hm : m < l.length := by omega
          obtain ⟨ad', c2, e1, _, p0, _, _, hy1, _⟩ := aud_at (Rp.below _ H2.out HB5.out) hm
          cases e1
          simp only [Nat.add_sub_cancel] at F2 F3 F4
          have F2b : sle x.item l[m].item = true → audFault l ev most dy = 8 := fun h => F2.out HN.out (by omega) h
          have F3b : sle x.item l[m].item = false → withinB x.last (-1) 3000000 = false → audFault l ev most dy = 1 := fun h h2 => F3.out HN.out (fun e => by rw [h] at e; exact absurd e.2 (by decide)) h2
          have F4b : sle x.item l[m].item = false → withinB x.last (-1) 3000000 = true → ∀ j, j < m + 1 + 1 → audF l j = 0 := fun h h2 => F4.out HN.out (fun e => by rw [h] at e; exact absurd e.2 (by decide)) h2
          clear F2 F3 F4
          generalize l[m] = y at *
          have F2 := Lib.hid F2b
          have G3 := Lib.hid F3b
          have G4 := Lib.hid F4b
          clear F2b F3b F4b
          go_wp2_with fail
          have hk0' : (0 : Int) < (m : Int) + 1 := by omega
          have hkm : IntKind.i64.wrap ((m : Int) + 1 - 1) = m := by rw [Int.add_sub_cancel]; exact IntWalk.i64_in _ (by omega)
          have hm0 : (0 : Int) ≤ (m : Int) := by omega
          have hml : (m : Int) < (l.length : Int) := by omega
          go_quiet (fail)
          rw [sle_eq]
          clear hk0' hkm hm0 hml p0 hk0
          cases hs : sle x.item y.item with
          | true =>
            have HF := F2.out hs
            clear F2 G3 G4 hs
            have HP := Lib.hid (AudPost.bad (w := w) HF (by decide) (HAB.out.trans ((below_drewN HB5.out nq).mono HAB.out.size)))
            go_wp2_with fail
            go_ret2
            exact HP.out
          | false =>
            have F3 := Lib.hid (G3.out hs)
            have F4 := Lib.hid (G4.out hs)
            clear F2 G3 G4 hs
            obtain ⟨w6, hw6⟩ : ∃ w6, w6 = w5.drewN nq := ⟨_, rfl⟩
            have HB6 : Hid (Below w2.heap.size w2 w6) := Lib.hid (by rw [hw6]; exact below_drewN HB5.out nq)
            have q1 : w6.cell? ⟨wr.heap.size, 1, none⟩ = some (.int .i64 x.last) := by rw [hw6]; exact D1.out
            have q2 : w6.cell? ⟨w.heap.size + 1, 0, none⟩ = some (.int .i64 dy) := by rw [hw6]; exact D2.out
            rw [← hw6]
            clear hw6 d0
            go_wp2_with fail
            refine (cwithin_any _ _ _ _).mono ?_
            rintro e w7 ⟨rfl, rfl⟩
            cases hwi : withinB x.last (-1) 3000000 with
            | false =>
              have HF := F3.out hwi
              clear F3 F4 hwi
              have HP := Lib.hid (AudPost.bad (w := w) HF (by decide) (HAB.out.trans (HB6.out.mono HAB.out.size)))
              go_wp2_with fail
              go_ret2
              exact HP.out
            | true =>
              have F5 := Lib.hid (F4.out hwi)
              clear F3 F4 hwi
              cases lt0 with
              | true =>
                have HL2 := Lib.hid (HLT.out.trans (Bool.true_or _))
                go_wp2_with fail
                go_roundw
                case rel => exact ⟨m + 1 + 1, by omega, by go_num, by rw [HL2.out], F5.out, HB6.out⟩
                case measure => simp [intOf]; omega
              | false =>
                by_cases hld : dy < x.last
                · have hgt : decide (x.last > dy) = true := decide_eq_true hld
                  have HL2 := Lib.hid (HLT.out.trans (by rw [decide_eq_true hld]; rfl : (false || decide (dy < x.last)) = true))
                  go_wp2_with fail
                  go_roundw
                  case rel => exact ⟨m + 1 + 1, by omega, by go_num, by rw [HL2.out], F5.out, HB6.out⟩
                  case measure => simp [intOf]; omega
                · have hgt : decide (x.last > dy) = false := decide_eq_false hld
                  have HL2 := Lib.hid (HLT.out.trans (by rw [decide_eq_false hld]; rfl : (false || decide (dy < x.last)) = false))
                  go_wp2_with fail
                  go_roundw
                  case rel => exact ⟨m + 1 + 1, by omega, by go_num, by rw [HL2.out], F5.out, HB6.out⟩
                  case measure => simp [intOf]; omega
    · obtain rfl : k = l.length := by omega
      rw [List.take_length]
      have q5 : wr.cell? ⟨w.heap.size, 0, none⟩ = some (.int .i64 ev) := (HKE.out.same (same_below HB.out) (by omega : w.heap.size < w2.heap.size)).cell 0
      have q7 : wr.cell? ⟨w.heap.size + 1, 0, none⟩ = some (.int .i64 dy) := (HKD.out.same (same_below HB.out) hs2).cell 0
      have Q5 := Lib.hid q5
      have Q7 := Lib.hid q7
      generalize hlt0 : lateA dy l = lt0
      have HLT := Lib.hid hlt0
      clear hlt0
      go_wp2_with fail
      refine (cwithin_any _ _ _ _).mono ?_
      rintro e w3 ⟨rfl, rfl⟩
      cases a1 : withinB ev 1 3000000 with
      | false =>
        have HF := audFault_1 (ev := ev) (most := most) (dy := dy) h5 HS.out (.inl a1)
        have HP := Lib.hid (AudPost.bad (w := w) HF (by decide) (HAB.out.trans (HB.out.mono HAB.out.size)))
        go_wp2_with fail
        go_ret2
        exact HP.out
      | true =>
      have A1 := Lib.hid a1
      clear a1
      go_wp2_with fail
      refine (cwithin_any _ _ _ _).mono ?_
      rintro e w3 ⟨rfl, rfl⟩
      cases a2 : withinB most 0 3000 with
      | false =>
        have HF := audFault_1 (ev := ev) (most := most) (dy := dy) h5 HS.out (.inr (.inl a2))
        have HP := Lib.hid (AudPost.bad (w := w) HF (by decide) (HAB.out.trans (HB.out.mono HAB.out.size)))
        go_wp2_with fail
        go_ret2
        exact HP.out
      | true =>
      have A2 := Lib.hid a2
      clear a2
      go_wp2_with fail
      refine (cwithin_any _ _ _ _).mono ?_
      rintro e w3 ⟨rfl, rfl⟩
      cases a3 : withinB dy 0 3000000 with
      | false =>
        have HF := audFault_1 (ev := ev) (most := most) (dy := dy) h5 HS.out (.inr (.inr a3))
        have HP := Lib.hid (AudPost.bad (w := w) HF (by decide) (HAB.out.trans (HB.out.mono HAB.out.size)))
        go_wp2_with fail
        go_ret2
        exact HP.out
      | true =>
      have A3 := Lib.hid a3
      have HF := Lib.hid (audFault_2 (ev := ev) (most := most) (dy := dy) h5 HS.out A1.out A2.out a3)
      clear a3
      cases lt0 with
      | true =>
        have HF2 : audFault l ev most dy = 12 := HF.out.trans (by rw [HLT.out]; first | done | rfl)
        clear q5 q7
        have HP := Lib.hid (AudPost.bad (w := w) HF2 (by decide) (HAB.out.trans (HB.out.mono HAB.out.size)))
        go_wp2_with fail
        go_ret2
        exact HP.out
      | false =>
        have HF2 : Hid (audFault l ev most dy = 0) := Lib.hid (HF.out.trans (by rw [HLT.out]; first | done | rfl))
        obtain ⟨b1, b2⟩ := of_decide_eq_true A1.out
        obtain ⟨b3, b4⟩ := of_decide_eq_true A2.out
        obtain ⟨b5, b6⟩ := of_decide_eq_true A3.out
        have hsrt := auds_sorted HS.out
        have HSRT := Lib.hid hsrt
        have HLA := Lib.hid (auds_last HS.out)
        clear HF HLT hsrt q5 q7 HS
        have hBr := HB.out.size
        go_wp2_with fail
        refine (cloneAud_any _ l wr (Rp.ext _ H0.out (HAB.out.trans (HB.out.mono HAB.out.size))) (by omega)).mono ?_
        rintro e w3 ⟨v3, rfl, ho3, hb3⟩
        have O3 := Lib.hid ho3
        have R5 := Lib.hid ((hb3.cell (p := ⟨w.heap.size, 0, none⟩) (by show w.heap.size < _; omega)).trans Q5.out)
        have R7 := Lib.hid ((hb3.cell (p := ⟨w.heap.size + 1, 0, none⟩) (by show w.heap.size + 1 < _; omega)).trans Q7.out)
        have HB3 := Lib.hid hb3
        have hs3 := hb3.size
        clear ho3 hb3 Q5 Q7
        go_wp2_with fail
        refine (delAud_any v3 l ev dy w.heap.size (w.heap.size + 1) wr.heap.size w3 O3.out (fun s hs => ⟨by have := (HLA.out s hs).2.2; unfold maxLen; omega, WalkArith.wf_i64 (by have := HLA.out s hs; omega)⟩) ⟨by omega, by omega, hs3⟩ (by omega) b1 b2 b5 b6 R5.out R7.out).mono ?_
        rintro e w4 ⟨v4, rfl, ho4, hg4⟩
        have hb4 : Below wr.heap.size w3 w4 := (Below.refl wr.heap.size w3).grown hg4 hs3 (fun k hk => (O3.out.lt k hk).1)
        have O4 := Lib.hid ho4
        have S5 := Lib.hid ((hb4.cell (p := ⟨w.heap.size, 0, none⟩) (by show w.heap.size < _; omega)).trans R5.out)
        have S7 := Lib.hid ((hb4.cell (p := ⟨w.heap.size + 1, 0, none⟩) (by show w.heap.size + 1 < _; omega)).trans R7.out)
        have HB4 := Lib.hid (HB3.out.trans hb4)
        have hs4 := HB4.out.size
        have hkl := keepA_len ev dy l
        clear ho4 hg4 hb4 O3 R5 R7 HB3
        go_wp2_with fail
        refine (sortAud_any v4 (keepA ev dy l) ev dy w.heap.size (w.heap.size + 1) wr.heap.size w4 O4.out (by omega) ⟨by omega, by omega, hs4⟩ b1 b2 b5 b6 S5.out S7.out (due_key HSRT.out)).mono ?_
        rintro e w5 ⟨rfl, d', hp, hs, ho5, hb5⟩
        have HDUE := Lib.hid (due_of_sorted HSRT.out hp hs)
        have hN : d'.toList.length = (keepA ev dy l).length := HDUE.out.1.length_eq
        have HB5 := Lib.hid (HAB.out.trans ((HB.out.trans ((HB4.out.trans hb5).mono hBr)).mono HAB.out.size))
        have HIT : Hid (∀ s ∈ d'.toList, s.item.length ≤ maxLen ∧ (Lit.int .i64 s.last).wf = true) := Lib.hid (fun s hs => by
          have hm : s ∈ l := (List.mem_filter.1 (HDUE.out.1.mem_iff.1 hs)).1
          have := HLA.out s hm
          exact ⟨by unfold maxLen; omega, WalkArith.wf_i64 (by omega)⟩)
        rw [← hN] at ho5
        have HR5 := Lib.hid (auds_read ho5 HIT.out)
        obtain ⟨A5, c5, rfl, hc5, hcm5, _⟩ := own_form ho5
        unfold maxLen at hcm5
        clear hp hs ho5 hb5 O4 S5 S7 HB4 hs4 HSRT HLA
        generalize d'.toList = out at *
        obtain ⟨mo, rfl⟩ : ∃ mo : Nat, most = (mo : Int) := ⟨most.toNat, by omega⟩
        have hol : out.length ≤ 3000 := by omega
        obtain ⟨M, hM⟩ : ∃ M, M = min mo out.length := ⟨_, rfl⟩
        have hMo : M ≤ out.length := by omega
        have HOUT : Hid ((out.take M).map (fun x => bstr x.item) = audOut (mo : Int) out) := Lib.hid (audOut_row rfl (by rw [Int.toNat_natCast]; exact hM))
        have hmin : min (mo : Int) (out.length : Int) = (M : Int) := by omega
        have HMI := Lib.hid hM
        clear hM hN hkl
        go_wp2_with fail
        go_loopw [14, 87] (fun vo vi wx => ∃ k : Nat, k ≤ M ∧ vi = .int .i64 k ∧ Hid (wx.ownsRow w5.heap.size 9 1 vo k ((out.take k).map fun x => Value.string (bstr x.item))) ∧ Hid (Below w5.heap.size w5 wx)) (fun _ vi _ => M - (intOf vi).toNat)
        case atStart => exact ⟨0, by omega, rfl, World.ownsRow_nil _ _ _ _, Below.refl _ _⟩
        case round =>
          obtain ⟨k, hk, rfl, HO, HX⟩ := hrel
          by_cases hlt : k < M
          · have hlo : k < out.length := by omega
            obtain ⟨ad, c', e1, hadb, c0, c1, c2, hz1, _⟩ := aud_at (Rp.below _ HR5.out HX.out) hlo
            injection e1 with e1 _ e3
            subst e1 e3
            obtain ⟨AO, cO, rfl, _⟩ := own_form HO.out
            have HST : Hid ((out.take (k + 1)).map (fun x => Value.string (bstr x.item)) = (out.take k).map (fun x => Value.string (bstr x.item)) ++ [.string (bstr out[k].item)]) := Lib.hid (by rw [List.take_succ_eq_append_getElem hlo, List.map_append]; rfl)
            clear hadb
            generalize out[k] = x at *
            have hkb := Blk.new wr 103 [.string (bstr x.item), .int .i64 x.last, .bool x.urg]
            have k0 : _ = some (Value.string (bstr x.item)) := hkb.cell 0
            have hbw := (Below.refl wr.heap.size wr).alloc (Nat.le_refl _) (.cells #[.string (bstr x.item), .int .i64 x.last, .bool x.urg] 103)
            have HBX := Lib.hid (HX.out.alloc HX.out.size (.cells #[.string (bstr x.item), .int .i64 x.last, .bool x.urg] 103))
            have HOA := Lib.hid (HO.out.kept (below_grown hbw) (by cases hvv : (Value.slice AO k cO).ownBlock <;> simp))
            have hsza : w5.heap.size ≤ (wr.alloc (.cells #[.string (bstr x.item), .int .i64 x.last, .bool x.urg] 103)).heap.size := HBX.out.size
            clear hkb hbw HO HX
            go_wp2_with (at_builtin; refine app_str rfl (.tmp 91) (.tmp 94) rfl HOA.out hsza rfl (by rw [World.size_alloc]; rfl) (by omega) ?_; intro g1 cc1 w9 HO9 HG9 HB9 HL9)
            go_roundw
            case rel => exact ⟨k + 1, by omega, by go_num, by rw [HST.out]; exact HO9.out, HB9.out _ HBX.out⟩
            case measure => simp [intOf]; omega
          · obtain rfl : k = M := by omega
            obtain ⟨AO, cO, rfl, _⟩ := own_form HO.out
            have HP : Hid (AudPost l ev (mo : Int) dy w (.returned (.tuple #[.slice AO k cO, .int .i64 0])) wr) := Lib.hid ⟨_, (out.take k).map (fun x => bstr x.item), by rw [HF2.out], Rp.str_own (n := k) (by rw [List.map_map]; exact HO.out) (fun x hx => by obtain ⟨y, hy, rfl⟩ := List.mem_map.1 hx; rw [bstr_size]; exact (HIT.out y (List.mem_of_mem_take hy)).1) (fun g hg => (HO.out.lt g hg).2), HB5.out.trans (HX.out.mono HB5.out.size), fun h => absurd HF2.out h, fun _ => ⟨out, HDUE.out, HOUT.out⟩⟩
            clear HO HX
            go_wp2_with fail
            go_ret2
            exact HP.out
end Go.Proofs.YtbafnemcdhdagaaDoor
