/-
  'Rebuilt' of both packages: pieces put together, or the error.
-/
import Derived.Test.YtofahmdjhpbecaaProg
import Derived.Test.YtofahmdjhpbecaaRebPlain
namespace Go.Proofs.Ytofahmdjhpbecaa
open Go.RowKit
set_option linter.unusedVariables false
set_option linter.unusedSimpArgs false

set_option maxRecDepth 100000 in
set_option maxHeartbeats 4000000 in
theorem rebuilt_any (v1 v2 : Value) (base : List UInt8) (l : List Cp) (w : World) (h1 : (Rp.sl Rp.u8).ok w (· < w.heap.size) [v1] base) (h2 : (Rp.sl cpRp).ok w (· < w.heap.size) [v2] l) (hfit : (Rp.sl cpRp).fits l) :
    Calls Try.prog 26 #[v1, v2] w (RbPost base l w) := by
  obtain ⟨A, c, rfl, hl1, hc1, _⟩ := Rp.sl_open h1
  obtain ⟨B, d, rfl, hl2, hc2, _⟩ := Rp.sl_open h2
  have H1 := Lib.hid h1
  have H2 := Lib.hid h2
  have HFIT := Lib.hid hfit
  clear h1 h2 hfit
  unfold maxLen at hc1 hc2
  by_cases hb : 3000 < base.length
  · have HP := Lib.hid (rbPost_bad (base := base) (l := l) (w := w) (w' := w) (f := 2) (by rw [rbFault, if_pos (.inl hb)]) (by decide) (Below.refl _ _))
    go_enter Try.func26, Try.ntmps26
    go_wp2
    go_ret2
    exact HP.out
  by_cases hb2 : 3000 < l.length
  · have HP := Lib.hid (rbPost_bad (base := base) (l := l) (w := w) (w' := w) (f := 2) (by rw [rbFault, if_pos (.inr hb2)]) (by decide) (Below.refl _ _))
    go_enter Try.func26, Try.ntmps26
    go_wp2
    go_ret2
    exact HP.out
  have HF0 : Hid (rbFault base l = if rbChk base.length l ≠ 0 then rbChk base.length l else if 3000 < rbTotal l then 2 else 0) := by show rbFault base l = _; rw [rbFault, if_neg (by omega)]
  have l1 : base.length ≤ 3000 := by omega
  have l2 : l.length ≤ 3000 := by omega
  go_enter Try.func26, Try.ntmps26
  go_wp2
  go_loopw [6, 7, 21] (fun vo vg i wr => ∃ (k : Nat) (big : Bool), k ≤ l.length ∧ i = .int .i64 k ∧ vg = .bool big ∧ Hid (rbChk base.length l = rbChk base.length (l.drop k)) ∧ Hid (big = decide (3000 < rbTotal (l.take k))) ∧
      Hid (big = false → wr.ownsRow w.heap.size 5 1 vo (rbTotal (l.take k)) ((rbOut base (l.take k)).map fun b => .int .u8 b.toNat)) ∧ Hid (Below w.heap.size w wr))
    (fun _ _ i _ => l.length - (intOf i).toNat)
  case atStart => exact ⟨0, false, by omega, rfl, rfl, rfl, rfl, fun _ => World.ownsRow_nil _ _ _ _, Below.refl _ _⟩
  case round =>
    obtain ⟨k, big, hk, rfl, rfl, HC, HG, HO, HB⟩ := hrel
    by_cases hlt : k < l.length
    · obtain ⟨ad, us, rfl, _, hadb, hu, hcell⟩ := Rp.sl_at (Rp.below _ H2.out HB.out) hlt
      obtain ⟨vb, rfl, hvb, hw1, hw2⟩ := cp_open hu
      have c0 : wr.cell? (ad.add (k * 3)) = some (.int .i64 l[k].frm) := hcell 0 _ rfl
      have c1 := hcell 1 _ rfl
      have c2 := hcell 2 _ rfl
      rw [add_fld _ _ _ (by omega)] at c1 c2
      change wr.cell? ⟨(ad.add (k * 3)).block, (ad.add (k * 3)).off + 1, none⟩ = some (.int .i64 l[k].n) at c1
      change wr.cell? ⟨(ad.add (k * 3)).block, (ad.add (k * 3)).off + 2, none⟩ = some vb at c2
      obtain ⟨A3, c3, rfl, hl3, hc3, _⟩ := Rp.sl_open hvb
      unfold maxLen at hc3
      have HV := Lib.hid hvb
      have hft := cp_fits HFIT.out hlt
      have hi1 := Lib.hid hw1
      have hi2 := Lib.hid hw2
      clear hcell hu hvb hw1 hw2 hadb
      have HTS := Lib.hid (rbTotal_succ hlt)
      have HOS := Lib.hid (rbOut_succ (base := base) hlt)
      have hNF := @rbChk_form base.length k l hlt
      have hNR := @rbChk_range base.length k l hlt
      have hNN := @rbChk_next base.length k l hlt
      have HNF := Lib.hid hNF
      have HNR := Lib.hid hNR
      have HNN := Lib.hid hNN
      clear hNF hNR hNN
      generalize hcp : l[k] = cp at *
      obtain ⟨frm, n, bs⟩ := cp
      clear hcp
      simp only [] at c0 c1 hft hl3
      by_cases hgood : cpGood frm n bs.length
      · have hcf : cpF frm n bs.length = 0 := if_pos hgood
        have hnn : 0 ≤ n := by unfold cpGood at hgood; omega
        by_cases hrange : frm < 0 ∨ (base.length : Int) < frm ∨ (base.length : Int) - frm < n
        · have HP := Lib.hid (fun w' h => rbPost_bad (base := base) (l := l) (w := w) (w' := w') (f := 1) (by rw [HF0.out, HC.out, HNR.out hgood hrange]; rfl) (by decide) h)
          have HGD := Lib.hid hgood
          have HHB := Lib.hid ((HB.out.alloc HB.out.size (.cells #[.int .i64 frm, .int .i64 n, .slice A3 bs.length c3] 93)).alloc (by simp; have := HB.out.size; omega) (.cells #[.int .i64 frm, .int .i64 n, .slice A3 bs.length c3] 93))
          clear hgood
          by_cases r1 : frm < 0
          · clear hrange
            go_wp2_with fail
            refine (checkCopy_any frm n A3 bs.length c3 _ (by omega)).mono ?_
            rintro e w1 ⟨rfl, rfl⟩
            rw [hcf]
            go_wp2
            go_ret2
            exact HP.out _ HHB.out
          · by_cases r2 : (base.length : Int) < frm
            · clear hrange
              go_wp2_with fail
              refine (checkCopy_any frm n A3 bs.length c3 _ (by omega)).mono ?_
              rintro e w1 ⟨rfl, rfl⟩
              rw [hcf]
              go_wp2
              go_ret2
              exact HP.out _ HHB.out
            · have r3 : (base.length : Int) - frm < n := by omega
              clear hrange
              go_wp2_with fail
              refine (checkCopy_any frm n A3 bs.length c3 _ (by omega)).mono ?_
              rintro e w1 ⟨rfl, rfl⟩
              rw [hcf]
              go_wp2
              go_ret2
              exact HP.out _ HHB.out
        · have HNX := Lib.hid (HNN.out hgood hrange)
          obtain ⟨f, rfl⟩ := Int.eq_ofNat_of_zero_le (show 0 ≤ frm by omega)
          obtain ⟨m, rfl⟩ := Int.eq_ofNat_of_zero_le hnn
          have hfm : f + m ≤ base.length := by omega
          clear hrange hgood hnn
          have HHB := Lib.hid ((HB.out.alloc HB.out.size (.cells #[.int .i64 f, .int .i64 m, .slice A3 bs.length c3] 93)).alloc (by simp; have := HB.out.size; omega) (.cells #[.int .i64 f, .int .i64 m, .slice A3 bs.length c3] 93))
          cases big with
          | true =>
            have HTT : Hid (true = decide (3000 < rbTotal (l.take (k + 1)))) := by
              have h1 := of_decide_eq_true HG.out.symm
              have h2 := HTS.out
              exact (decide_eq_true (by omega)).symm
            go_wp2_with fail
            refine (checkCopy_any f m A3 bs.length c3 _ (by omega)).mono ?_
            rintro e w1 ⟨rfl, rfl⟩
            rw [hcf]
            go_wp2
            go_roundw
            case rel => exact ⟨k + 1, true, by omega, by go_num, rfl, by rw [HC.out, HNX.out]; rfl, HTT, Lib.hid (fun h => by cases h), HHB.out⟩
            case measure => simp [intOf]; omega
          | false =>
            have ht3 : rbTotal (l.take k) ≤ 3000 := by have := of_decide_eq_false HG.out.symm; omega
            have hown := HO.out rfl
            obtain ⟨A6, c6, rfl, hn6, hc6, hlt6⟩ := own_form hown
            have hloc : ∀ (W w2 : World), W = ((wr.alloc (.cells #[.int .i64 f, .int .i64 m, .slice A3 bs.length c3] 93)).alloc (.cells #[.int .i64 f, .int .i64 m, .slice A3 bs.length c3] 93)).drew → W.grownBy w2 (Value.slice A6 (rbTotal (l.take k)) c6).ownBlock → w2.cell? ⟨wr.heap.size, 2, none⟩ = some (.slice A3 bs.length c3) := by
              rintro W w2 rfl hg
              refine (World.cell?_of_block (hg.block wr.heap.size (by show wr.heap.size < ((wr.alloc _).alloc _).heap.size; simp; omega) (fun e => by have := (hlt6 _ e.symm).2; omega))).trans ?_
              show ((wr.alloc _).alloc _).cell? ⟨wr.heap.size, 2, none⟩ = _
              rw [World.cell?_alloc_lt _ _ _ (by simp)]
              exact Blk.cell (Blk.new wr _ [_, _, _]) 2
            have HLOC := Lib.hid hloc
            clear hloc hlt6
            have HOW := Lib.hid ((hown.alloc (.cells #[.int .i64 f, .int .i64 m, .slice A3 bs.length c3] 93)).alloc (.cells #[.int .i64 f, .int .i64 m, .slice A3 bs.length c3] 93))
            have hownl := hown
            clear hown
            by_cases hbig : 3000 < rbTotal (l.take k) + (m + bs.length)
            · have HTT : Hid (true = decide (3000 < rbTotal (l.take (k + 1)))) := by
                have h2 := HTS.out
                simp only [Int.toNat_natCast] at h2
                exact (decide_eq_true (by omega)).symm
              clear hownl
              generalize rbTotal (l.take k) = tot at *
              have hbd : decide ((3000 : Int) < (tot : Int) + m + bs.length) = true := decide_eq_true (by omega)
              go_wp2_with fail
              refine (checkCopy_any f m A3 bs.length c3 _ (by omega)).mono ?_
              rintro e w1 ⟨rfl, rfl⟩
              rw [hcf]
              go_wp2
              go_roundw
              case rel => exact ⟨k + 1, true, by omega, by go_num, rfl, by rw [HC.out, HNX.out]; rfl, HTT, Lib.hid (fun h => by cases h), HHB.out⟩
              case measure => simp [intOf]; omega
            · have HTT : Hid (false = decide (3000 < rbTotal (l.take (k + 1)))) := by
                have h2 := HTS.out
                simp only [Int.toNat_natCast] at h2
                exact (decide_eq_false (by omega)).symm
              have HFS := Lib.hid HTS.out
              generalize rbTotal (l.take k) = tot at *
              have hbd : decide ((3000 : Int) < (tot : Int) + m + bs.length) = false := decide_eq_false (by omega)
              have HP1 := Lib.hid (Rp.sl_part1 rfl (Rp.below _ H1.out HHB.out) (lo := f) (m := m) hfm)
              obtain ⟨A7, hA7⟩ : ∃ A7, (if c = f then A else Option.map (fun x => x.add f) A) = A7 := ⟨_, rfl⟩
              rw [hA7] at HP1
              have HV2 := Lib.hid (Rp.below _ HV.out (((Below.refl w.heap.size wr).alloc HB.out.size (.cells #[.int .i64 f, .int .i64 m, .slice A3 bs.length c3] 93)).alloc (by simp; have := HB.out.size; omega) (.cells #[.int .i64 f, .int .i64 m, .slice A3 bs.length c3] 93)))
              have hlm : ((base.drop f).take m).length = m := by rw [List.length_take, List.length_drop]; omega
              obtain ⟨part, hpart⟩ : ∃ part, (base.drop f).take m = part := ⟨_, rfl⟩
              rw [hpart] at HP1 hlm
              have HPA := Lib.hid hpart
              have HLM := Lib.hid hlm
              clear hlm hpart
              have done : ∀ (w3 : World) (A9 : Option Addr) (n9 c9 : Nat), w3.ownsRow w.heap.size 5 1 (.slice A9 n9 c9) n9 (((rbOut base (l.take k)).map fun b => .int .u8 b.toNat) ++ (part.map fun b => .int .u8 b.toNat) ++ bs.map fun b => .int .u8 b.toNat) → Below w.heap.size w w3 →
                  ∃ (k' : Nat) (big : Bool), k' ≤ l.length ∧ Value.int .i64 ((k : Int) + 1) = .int .i64 k' ∧ Value.bool false = .bool big ∧ Hid (rbChk base.length l = rbChk base.length (l.drop k')) ∧ Hid (big = decide (3000 < rbTotal (l.take k'))) ∧
                    Hid (big = false → w3.ownsRow w.heap.size 5 1 (.slice A9 n9 c9) (rbTotal (l.take k')) ((rbOut base (l.take k')).map fun b => .int .u8 b.toNat)) ∧ Hid (Below w.heap.size w w3) := by
                intro w3 A9 n9 c9 hown hbel
                refine ⟨k + 1, false, by omega, by go_num, rfl, by rw [HC.out, HNX.out]; rfl, HTT, Lib.hid (fun _ => ?_), hbel⟩
                have e : (rbOut base (l.take (k + 1))).map (fun b => Value.int .u8 b.toNat) = ((rbOut base (l.take k)).map fun b => .int .u8 b.toNat) ++ (part.map fun b => .int .u8 b.toNat) ++ bs.map fun b => .int .u8 b.toNat := by
                  rw [HOS.out, Int.toNat_natCast, Int.toNat_natCast, HPA.out]; simp
                have hlen : n9 = rbTotal (l.take (k + 1)) := by
                  have h1 := hown.1
                  have h2 := hownl.1
                  simp only [List.length_append, List.length_map, Nat.mul_one] at h1 h2
                  have h3 := HFS.out
                  have h4 := HLM.out
                  simp only [Int.toNat_natCast] at h3
                  omega
                rw [e, ← hlen]
                exact hown
              have HDN := Lib.hid done
              clear done hownl
              go_wp2_with fail
              refine (checkCopy_any f m A3 bs.length c3 _ (by omega)).mono ?_
              rintro e w1 ⟨rfl, rfl⟩
              rw [hcf]
              go_wp2_with fail
              have s1 : IntKind.i64.wrap ((f : Int) + m) = f + m := IntWalk.i64_in _ (by omega)
              have s2 : (0 : Int) ≤ (f : Int) + m := by omega
              have s3 : ((f : Int) + m).toNat = f + m := by omega
              have s4 : (f : Int) + m ≤ c := by omega
              have s5 : f + m - f = m := by omega
              go_region_law (first
                | (refine step_app_any (R := Rp.u8) (v := .slice A6 tot c6) (n := tot) (xs := (rbOut base (l.take k)).map fun b => .int .u8 b.toNat) (B := w.heap.size) (S := (· < w.heap.size)) (A := A7) (m := m) (c := c - f) (by rfl) rfl (.tmp 65) (.tmp 74) 22 (by rfl) 5 (.int .u8 0) 1 Try.underlying22 uint8_info rfl (by rfl) (by exact HOW.out) (by exact HHB.out.size) (l := part) (fun b => .int .u8 b.toNat) (by rfl) (by exact HP1.out) u8_one (by have := HLM.out; unfold maxLen; omega) (by have := HLM.out; omega) ?_; intro A8 c8 w2 HO1 HG1 HB1 HL1; have hx2 := HLOC.out _ w2 (by rfl) HG1.out)
                | (refine step_app_any (R := Rp.u8) (v := .slice A8 (tot + part.length) c8) (n := tot + part.length) (xs := ((rbOut base (l.take k)).map fun b => .int .u8 b.toNat) ++ part.map fun b => .int .u8 b.toNat) (B := w.heap.size) (S := (· < w.heap.size)) (A := A3) (m := bs.length) (c := c3) (by rfl) rfl (.tmp 75) (.tmp 77) 22 (by rfl) 5 (.int .u8 0) 1 Try.underlying22 uint8_info rfl (by rfl) (by exact HO1.out) (by exact (HB1.out _ HHB.out.drew).size) (l := bs) (fun b => .int .u8 b.toNat) (by rfl) (by exact Rp.below _ HV2.out (HB1.out _ (Below.refl w.heap.size _).drew)) u8_one (by have := HLM.out; unfold maxLen; omega) (by have := HLM.out; omega) ?_; intro A9 c9 w3 HO2 HG2 HB2 HL2))
              all_goals simp only [List.getElem_toArray, List.getElem_cons_succ, List.getElem_cons_zero, Act.put, List.setIfInBounds_toArray, List.set_cons_succ, List.set_cons_zero]
              all_goals go_wp2
              all_goals go_roundw
              all_goals first
                | exact HDN.out _ _ _ _ HO2.out (HB2.out _ (HB1.out _ HHB.out.drew))
                | (simp [intOf]; omega)
      · have hcf : cpF frm n bs.length = 3 := if_neg hgood
        have HP := Lib.hid (fun w' h => rbPost_bad (base := base) (l := l) (w := w) (w' := w') (f := 3) (by rw [HF0.out, HC.out, HNF.out hgood]; rfl) (by decide) h)
        have HHB := Lib.hid ((HB.out.alloc HB.out.size (.cells #[.int .i64 frm, .int .i64 n, .slice A3 bs.length c3] 93)).alloc (by simp; have := HB.out.size; omega) (.cells #[.int .i64 frm, .int .i64 n, .slice A3 bs.length c3] 93))
        clear hgood
        go_wp2_with fail
        refine (checkCopy_any frm n A3 bs.length c3 _ (by omega)).mono ?_
        rintro e w1 ⟨rfl, rfl⟩
        rw [hcf]
        go_wp2
        go_ret2
        exact HP.out _ HHB.out
    · have hke : k = l.length := by omega
      subst hke
      have hc0 : rbChk base.length l = 0 := by rw [HC.out]; exact rbChk_end (Nat.le_refl _)
      have hf1 := HF0.out
      rw [hc0] at hf1
      have HF1 := Lib.hid hf1
      clear hc0 hf1
      cases big with
      | true =>
        have HP := Lib.hid (rbPost_bad (base := base) (l := l) (w := w) (w' := wr) (f := 2) (by have h1 := of_decide_eq_true HG.out.symm; rw [List.take_length] at h1; rw [HF1.out, if_neg (by decide), if_pos h1]) (by decide) HB.out)
        go_wp2
        go_ret2
        exact HP.out
      | false =>
        have hown := HO.out rfl
        rw [List.take_length] at hown
        have HP := Lib.hid (rbPost_good (base := base) (l := l) (w := w) (by have h1 := of_decide_eq_false HG.out.symm; rw [List.take_length] at h1; rw [HF1.out, if_neg (by decide), if_neg h1]) hown HB.out)
        clear hown
        go_wp2
        go_ret2
        exact HP.out

end Go.Proofs.Ytofahmdjhpbecaa
