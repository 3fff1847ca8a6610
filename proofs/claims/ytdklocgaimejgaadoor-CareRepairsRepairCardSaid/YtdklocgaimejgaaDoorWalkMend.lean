/-
  The law 'CareRepairsRepair' walked: it returns true.
-/
import Derived.Test.YtdklocgaimejgaaDoorProg
import Derived.Test.YtdklocgaimejgaaDoorOpen
import Derived.Test.YtdklocgaimejgaaDoorTypesV
import Derived.Test.YtdklocgaimejgaaDoorRepairs
import Derived.Test.YtdklocgaimejgaaDoorAfter
import Derived.Test.YtdklocgaimejgaaDoorMend3
import Derived.Test.YtdklocgaimejgaaDoorSent
import Derived.Test.YtdklocgaimejgaaDoorAwake11
namespace Go.Proofs.YtdklocgaimejgaaDoor
open Go.RowKit
set_option linter.unusedVariables false
set_option linter.unusedSimpArgs false

set_option maxRecDepth 100000 in
set_option maxHeartbeats 4000000 in
theorem mendLaw_any (v0 : Value) (s : List Site) (v1 : Value) (l : List Held) (v2 : Value) (costs : List Cst) (v3 : Value) (most : Int) (w : World) (h0 : (Rp.sl siteRp).ok w (· < w.heap.size) [v0] s) (f0 : (Rp.sl siteRp).fits s)
    (h1 : (Rp.sl heldRp).ok w (· < w.heap.size) [v1] l) (f1 : (Rp.sl heldRp).fits l) (h2 : (Rp.sl cstRp).ok w (· < w.heap.size) [v2] costs) (f2 : (Rp.sl cstRp).fits costs) (h3 : (Rp.int .i64).ok w (· < w.heap.size) [v3] most) (f3 : (Rp.int .i64).fits most) :
    Calls Tryd.prog 3 #[v0, v1, v2, v3] w fun e w' => e = .returned (.bool true) ∧ Below w.heap.size w w' := by
  obtain ⟨e3, _⟩ := h3
  injection e3 with e3
  subst e3
  have H0 := Lib.hid h0
  have H1 := Lib.hid h1
  have H2 := Lib.hid h2
  obtain ⟨A0, c0s, rfl, hls, hcs, _⟩ := Rp.sl_open h0
  unfold maxLen at hcs
  clear f0 f1 f2 f3 h0 h1 h2
  go_enter Tryd.func3, Tryd.ntmps3
  go_wp2_with fail
  refine (repairs_any _ s v1 l v2 costs most w H0.out H1.out H2.out).mono ?_
  rintro e w1 ⟨x1, x2, rfl, hx1, hx2, hb1⟩
  have HB1 := Lib.hid hb1
  clear hb1
  by_cases hf : repFault s l costs most = 0
  case neg =>
    have ho : repOut s l costs most = ([], []) := by rw [repOut, if_neg hf]
    rw [ho] at hx1 hx2
    obtain ⟨A1, c1, rfl, _⟩ := Rp.sl_open hx1
    obtain ⟨A2, c2, rfl, _⟩ := Rp.sl_open hx2
    have hb : (repFault s l costs most != 0) = true := by simpa using hf
    clear hx1 hx2 ho hf
    generalize repFault s l costs most = f at *
    go_wp2_with fail
    refine (awake_any _).mono ?_
    rintro e w2 ⟨rfl, hb2⟩
    have HB2 := Lib.hid (ext_trans HB1.out hb2)
    clear hb2
    go_wp2_with fail
    go_ret
    exact ⟨rfl, HB2.out⟩
  obtain ⟨mo, rfl⟩ : ∃ mo : Nat, most = mo := by
    have := hf
    unfold repFault at this
    split at this
    · rename_i h1; exact absurd this h1
    · split at this
      · rename_i h1; exact absurd this h1
      · split at this
        · omega
        · rename_i h3
          have h3 := Bool.not_eq_false _ ▸ h3
          simp only [withinB, decide_eq_true_eq] at h3
          exact ⟨most.toNat, by omega⟩
  obtain ⟨hc, hcost, hmo, hRl, ho⟩ := rep_zero hf
  rw [ho] at hx1 hx2
  have HAF := Lib.hid (mend_fault hf)
  have HMA := Lib.hid (fun h => mend_all hf h)
  have HBT := Lib.hid (built_rep (s := s) (costs := costs) (m := mo) (votesOf s l) ([], []) Built.nil)
  have HBL : Hid (∀ x ∈ (repL s costs (mo : Int) (votesOf s l)).1, cntR (repL s costs (mo : Int) (votesOf s l)).1 x.frm x.rnd ≤ mo) := Lib.hid (fun x hx => built_le hmo HBT.out hx)
  rw [hf]
  have HC := Lib.hid hc
  clear hcost ho hf HBT
  generalize repL s costs (mo : Int) (votesOf s l) = Q at *
  obtain ⟨R, lost⟩ := Q
  dsimp only at hx1 hx2 HAF HMA HBL hRl
  have HX1 := Lib.hid hx1
  have HX2 := Lib.hid hx2
  clear hx1 hx2
  go_wp2_with fail
  refine (after_any _ s v1 l x1 R w1 (Rp.ext _ H0.out HB1.out) (Rp.ext _ H1.out HB1.out) HX1.out).mono ?_
  rintro e w2 ⟨xa, rfl, hxa, hb2⟩
  have HB2 := Lib.hid (ext_trans HB1.out hb2)
  have HX1b := Lib.hid (Rp.ext _ HX1.out hb2)
  have HX2b := Lib.hid (Rp.ext _ HX2.out hb2)
  clear hb2 HX1 HX2
  by_cases hf : aftFault s l R = 0
  case neg =>
    rcases HAF.out with h | h | h
    · exact absurd h hf
    · rw [h]
      clear hf h hxa
      go_wp2_with fail
      refine (awake_any _).mono ?_
      rintro e w3 ⟨rfl, hb3⟩
      have HB3 := Lib.hid (ext_trans HB2.out hb3)
      clear hb3
      go_wp2_with fail
      go_ret
      exact ⟨rfl, HB3.out⟩
    · rw [h]
      clear hf h hxa
      go_wp2_with fail
      refine (awake_any _).mono ?_
      rintro e w3 ⟨rfl, hb3⟩
      have HB3 := Lib.hid (ext_trans HB2.out hb3)
      clear hb3
      go_wp2_with fail
      go_ret
      exact ⟨rfl, HB3.out⟩
  have ho : aftOut s l R = aftL l R := by rw [aftOut, if_pos hf]
  rw [ho] at hxa
  obtain ⟨hc2, hit, hall⟩ := HMA.out hf
  rw [hf]
  have HXA := Lib.hid hxa
  have HC2 := Lib.hid hc2
  have HIT := Lib.hid hit
  have HALL := Lib.hid hall
  clear hf ho hxa hc2 hit hall HMA HAF
  generalize aftL l R = L at *
  go_wp2_with fail
  refine (votesTop_any _ s v1 l w2 (Rp.ext _ H0.out HB2.out) (Rp.ext _ H1.out HB2.out)).mono ?_
  rintro e w3 ⟨va, rfl, hva, hb3⟩
  have HB3 := Lib.hid (ext_trans HB2.out hb3)
  have HX1c := Lib.hid (Rp.ext _ HX1b.out hb3)
  have HX2c := Lib.hid (Rp.ext _ HX2b.out hb3)
  have HXAc := Lib.hid (Rp.ext _ HXA.out hb3)
  rw [votesTopL, if_pos HC.out] at hva
  rw [HC.out]
  have HVA := Lib.hid hva
  clear hb3 hva HX1b HX2b HXA
  go_wp2_with fail
  refine (votesTop_any _ s xa L w3 (Rp.ext _ H0.out HB3.out) HXAc.out).mono ?_
  rintro e w4 ⟨vb, rfl, hvb, hb4⟩
  have HB4 := Lib.hid (ext_trans HB3.out hb4)
  have HX1d := Lib.hid (Rp.ext _ HX1c.out hb4)
  have HX2d := Lib.hid (Rp.ext _ HX2c.out hb4)
  have HVAd := Lib.hid (Rp.ext _ HVA.out hb4)
  rw [votesTopL, if_pos HC2.out] at hvb
  rw [HC2.out]
  have HVB := Lib.hid hvb
  clear hb4 hvb HX1c HX2c HVA HXAc
  generalize votesOf s l = V at *
  generalize votesOf s L = U at *
  have hlen : U.length = V.length := by
    have := congrArg List.length HIT.out
    rwa [List.length_map, List.length_map] at this
  have HITk : Hid (∀ k (h1 : k < U.length) (h2 : k < V.length), U[k].item = V[k].item) := Lib.hid (fun k h1 h2 => by
    have := congrArg (fun a => a[k]?) HIT.out
    simp only [List.getElem?_map, List.getElem?_eq_getElem h1, List.getElem?_eq_getElem h2, Option.map_some, Option.some.injEq] at this
    exact this)
  obtain ⟨Aa, ca, rfl, hla, hca, _⟩ := Rp.sl_open HVAd.out
  obtain ⟨Ab, cb, rfl, hlb, hcb, _⟩ := Rp.sl_open HVB.out
  unfold maxLen at hca hcb
  have hlen2 : (V.length : Int) = (U.length : Int) := by omega
  go_wp2_with fail
  refine (sent_any x1 R mo w4 HX1d.out hRl HBL.out).mono ?_
  rintro e w5 ⟨⟨n, rfl, hn⟩, hb5⟩
  have HB5 := Lib.hid (ext_trans HB4.out hb5)
  have HX2e := Lib.hid (Rp.ext _ HX2d.out hb5)
  have HVAe := Lib.hid (Rp.ext _ HVAd.out hb5)
  have HVBe := Lib.hid (Rp.ext _ HVB.out hb5)
  clear hb5 HX1d HX2d HVAd HVB
  have hnd : decide ((mo : Int) < (n : Int)) = false := decide_eq_false (by omega)
  go_wp2_with fail
  refine (awake_any _).mono ?_
  rintro e w6 ⟨rfl, hb6⟩
  have HB6 := Lib.hid (ext_trans HB5.out hb6)
  have HX2f := Lib.hid (Rp.ext _ HX2e.out hb6)
  have HVAf := Lib.hid (Rp.ext _ HVAe.out hb6)
  have HVBf := Lib.hid (Rp.ext _ HVBe.out hb6)
  clear hb6 HX2e HVAe HVBe HB5 HB4 HB3 HB2 HB1
  go_wp2_with fail
  rw [show decide (mo < n) = false from decide_eq_false (by omega)]
  clear hnd
  go_loopw [95] (fun vi wr => ∃ k : Nat, k ≤ U.length ∧ vi = .int .i64 k ∧ Hid (Below w6.heap.size w6 wr)) (fun vi _ => U.length - (intOf vi).toNat)
  case atStart => exact ⟨0, by omega, rfl, Below.refl _ _⟩
  case round =>
    obtain ⟨k, hk, rfl, HB⟩ := hrel
    by_cases hlt : k < U.length
    · have hlt2 : k < V.length := by omega
      obtain ⟨ad, c', x3, x4, e1, hadb, c0, c1, c2, c3, hz1, hz2, hr, hwr⟩ := votes_at (Rp.below _ HVBf.out HB.out) hlt
      cases e1
      obtain ⟨ad2, c'', x5, x6, e1, hadb2, d0, d1, d2, d3, hy1, hy2, kr, kwr⟩ := votes_at (Rp.below _ HVAf.out HB.out) hlt2
      cases e1
      have hki := HITk.out k hlt hlt2
      have HAL := Lib.hid (HALL.out U[k] (List.getElem_mem hlt) V[k] (List.getElem_mem hlt2) hki)
      rw [← hki] at HAL
      have hadb2' : (ad2.add (k * 4)).block < wr.heap.size := by rw [add_block]; exact Nat.lt_of_lt_of_le hadb2 HB.out.size
      obtain ⟨A3, c3', rfl, hl3', hc3, _⟩ := Rp.sl_open hr
      obtain ⟨A4, c4', rfl, hl4', hc4, _⟩ := Rp.sl_open hwr
      rw [List.length_map] at *
      clear hadb hadb2 hr hwr kr kwr hki d0 d2 d3
      generalize U[k] = x at *
      generalize V[k] = y at *
      have hb4 := (Below.refl wr.heap.size wr).alloc (Nat.le_refl _) (.cells #[.string (bstr x.item), .string (bstr x.digest), .slice A3 x.right.length c3', .slice A4 x.wrong.length c4'] 38)
      have HB7 := Lib.hid (HB.out.trans (hb4.mono HB.out.size))
      have HK := Lib.hid (Blk.new wr 38 [.string (bstr x.item), .string (bstr x.digest), .slice A3 x.right.length c3', .slice A4 x.wrong.length c4'])
      have k0 : _ = some (Value.string (bstr x.item)) := HK.out.cell 0
      have D1 := Lib.hid ((hb4.cell (p := ⟨(ad2.add (k * 4)).block, (ad2.add (k * 4)).off + 1, none⟩) hadb2').trans d1)
      have HX2g := Lib.hid (Rp.below _ HX2f.out HB7.out)
      clear hb4 HB d1
      go_wp2_with fail
      clear c0 c1 c2 c3 k0
      refine (contains_any _ lost x.item _ _ HX2g.out).mono ?_
      rintro e w7 ⟨rfl, rfl⟩
      by_cases hm : x.item ∈ lost
      · rw [decide_eq_true hm]
        clear hm HAL
        go_wp2_with fail
        go_roundw
        case rel => exact ⟨k + 1, by omega, by go_num, HB7⟩
        case measure => simp [intOf]; omega
      · rw [decide_eq_false hm]
        obtain ⟨g1, g2, g3⟩ := HAL.out hm
        have b1 : ((bstr x.digest).toList == (bstr y.digest).toList) = true := str_beq (by rw [g1])
        have b1' : ((bstr x.digest).toList != (bstr y.digest).toList) = false := by rw [g1]; simp
        have b2 : ((x.wrong.length : Int) != 0) = false := by rw [g2]; rfl
        have b3 : ((x.right.length : Int) != (s.length : Int)) = false := by rw [g3]; simp
        have k1 : _ = some (Value.string (bstr x.digest)) := HK.out.cell 1
        have k2 : _ = some (Value.slice A3 x.right.length c3') := HK.out.cell 2
        have k3 : _ = some (Value.slice A4 x.wrong.length c4') := HK.out.cell 3
        have dd := D1.out
        have hm0 : (0 : Int) ≤ (k : Int) := by omega
        have hmL : (k : Int) < (V.length : Int) := by omega
        clear hm HAL g1 g2 g3
        go_wp2_with fail
        go_quiet (fail)
        have HB8 := Lib.hid (below_drewN HB7.out nq)
        clear k1 k2 k3 dd
        go_wp2_with fail
        go_roundw
        case rel => exact ⟨k + 1, by omega, by go_num, HB8⟩
        case measure => simp [intOf]; omega
    · obtain rfl : k = U.length := by omega
      have HBZ := Lib.hid (ext_trans HB6.out HB.out)
      go_wp2_with fail
      go_ret
      exact ⟨rfl, HBZ.out⟩
end Go.Proofs.YtdklocgaimejgaaDoor
