/-
  'Repairs' of package care.
-/
import Derived.Test.YtnkdcmibafjplaaGreatDoorRepSt
namespace Go.Proofs.YtnkdcmibafjplaaGreatDoor
open Go.RowKit
set_option linter.unusedVariables false
set_option linter.unusedSimpArgs false

def McRep (mb : Nat) (w : World) (c : List Rpr) : Prop := ∃ f, IMap Tryz.prog 9 3 .i64 w mb c.length f ∧ ∀ d, (f (.string d)).getD 0 = ((sentN d c : Nat) : Int)
theorem McRep.keep {mb : Nat} (a b : World) (c : List Rpr) (h : b.heap[mb]? = a.heap[mb]?) (hm : McRep mb a c) : McRep mb b c := by
  obtain ⟨f, h1, h2⟩ := hm
  exact ⟨f, h1.same (S := fun k => k = mb) (fun k hk => by subst hk; exact h) rfl, h2⟩
theorem isNm_len40 {t : List UInt8} (h : isNm t = true) : t.length ≤ 40 := (nm_len h).2
theorem sent_put {f : Lit → Option Int} {c : List Rpr} (h : ∀ d, (f (.string d)).getD 0 = ((sentN d c : Nat) : Int)) (r : Rpr) :
    ∀ d, ((fun x => if x.sameKey (.string r.frm) then some (((sentN r.frm c : Nat) : Int) + 1) else f x) (.string d) : Option Int).getD 0 = ((sentN d (c ++ [r]) : Nat) : Int) := by
  intro d
  rw [sentN_snoc]
  by_cases e : d = r.frm
  · subst e
    dsimp only
    rw [if_pos (WideAt.sameKey_self (by trivial)), if_pos rfl]; rfl
  · dsimp only
    rw [if_neg (by rw [Maps.sameKey_ne (fun h => e (by injection h))]; simp), if_neg (Ne.symm e), h d]; rfl
set_option maxRecDepth 100000 in
set_option maxHeartbeats 8000000 in
theorem repairs_any (v0 : Value) (s : List Site) (v1 : Value) (l : List Held) (v2 : Value) (costs : List Cst) (most : Int) (w : World) (h0 : (Rp.sl siteRp).ok w (· < w.heap.size) [v0] s) (h1 : (Rp.sl heldRp).ok w (· < w.heap.size) [v1] l) (h2 : (Rp.sl cstRp).ok w (· < w.heap.size) [v2] costs) :
    Calls Tryz.prog 12 #[v0, v1, v2, .int .i64 most] w (RepPost s l costs most w) := by
  have H0 := Lib.hid h0
  have H1 := Lib.hid h1
  have H2 := Lib.hid h2
  obtain ⟨A0, c0s, rfl, hl0, hc0, _⟩ := Rp.sl_open h0
  unfold maxLen at hc0
  have HSZ := Lib.hid (held_sizes h1)
  clear h0 h1 h2
  have hmm := @run_makeMap Tryz.prog
  go_enter Tryz.func12, Tryz.ntmps12
  go_wp2_with fail
  refine (checkCopies_any _ s v1 l w H0.out H1.out).mono ?_
  rintro e w1 ⟨rfl, hb1⟩
  have HB1 := Lib.hid hb1
  clear hb1
  by_cases hf : copiesFault s l = 0
  case neg =>
    have HP := Lib.hid (RepPost.fail (s := s) (l := l) (costs := costs) (most := most) (show repFault s l costs most = copiesFault s l by rw [repFault, if_pos hf]) hf HB1.out)
    have hb : (copiesFault s l != 0) = true := by simpa using hf
    generalize copiesFault s l = f at *
    go_wp2_with fail
    go_ret3
    exact HP.out
  rw [hf]
  have HF0 := Lib.hid hf
  clear hf
  go_wp2_with fail
  refine (checkCosts_any _ s v2 costs w1 (Rp.ext _ H0.out HB1.out) (Rp.ext _ H2.out HB1.out)).mono ?_
  rintro e w2 ⟨rfl, hb2⟩
  have HB2 := Lib.hid (HB1.out.trans (hb2.mono HB1.out.size))
  clear hb2 HB1
  by_cases hf : costsFault s costs = 0
  case neg =>
    have HP := Lib.hid (RepPost.fail (s := s) (l := l) (costs := costs) (most := most) (show repFault s l costs most = costsFault s costs by rw [repFault, if_neg (by rw [HF0.out]; decide), if_pos hf]) hf HB2.out)
    have hb : (costsFault s costs != 0) = true := by simpa using hf
    generalize costsFault s costs = f at *
    go_wp2_with fail
    go_ret3
    exact HP.out
  rw [hf]
  have HF1 := Lib.hid hf
  clear hf
  go_wp2_with fail
  refine (cwithin_any most 1 3000 _).mono ?_
  rintro e w3 ⟨rfl, rfl⟩
  cases hwi : withinB most 1 3000 with
  | false =>
    have HP := Lib.hid (RepPost.fail (s := s) (l := l) (costs := costs) (most := most) (show repFault s l costs most = 1 by rw [repFault, if_neg (by rw [HF0.out]; decide), if_neg (by rw [HF1.out]; decide), if_pos hwi]) (by decide) HB2.out)
    clear hwi
    go_wp2_with fail
    go_ret3
    exact HP.out
  | true =>
  have HF2 : Hid (repFault s l costs most = if 3000 < (repL s costs most (votesOf s l)).1.length then 2 else 0) := Lib.hid (by rw [repFault, if_neg (by rw [HF0.out]; decide), if_neg (by rw [HF1.out]; decide), if_neg (by rw [hwi]; decide)])
  have hmr : 1 ≤ most ∧ most ≤ 3000 := by unfold withinB at hwi; exact of_decide_eq_true hwi
  obtain ⟨mo, rfl⟩ : ∃ mo : Nat, most = mo := ⟨most.toNat, by omega⟩
  clear hwi
  have hsl : s.length ≤ 50 := (sites_ok (copies_ok HF0.out).1).2.1
  have hl3 := (copies_ok HF0.out).2.1
  have hco := costs_ok (copies_ok HF0.out).1 HF1.out
  have HCO := Lib.hid hco.2
  clear hco
  have HBM := Lib.hid (HB2.out.alloc HB2.out.size (.map #[] 0))
  have hi0 := IMap.made (P := Tryz.prog) (K := 9) (E := 3) (q := .i64) w2
  have HI0 := Lib.hid hi0
  have HMP : Hid (w2.heap.size < (w2.alloc (.map #[] 0)).heap.size ∧ NoStr (w2.alloc (.map #[] 0)) w2.heap.size) := Lib.hid ⟨by simp, fun p hp s h => by
    have hh : (w2.alloc (.map #[] 0)).heap[w2.heap.size]? = some (.map #[] 0) := heap_alloc_new w2 _
    unfold World.cell? at h
    rw [hp, hh] at h
    cases h⟩
  have hmb0 : w.heap.size ≤ w2.heap.size := HB2.out.size
  clear hi0
  go_wp2_with fail
  have HMM := Lib.hid hmm
  clear hmm
  obtain ⟨mb, hmb⟩ : ∃ mb, w2.heap.size = mb := ⟨_, rfl⟩
  rw [hmb] at hmb0 HMP ⊢
  rw [hmb] at HI0
  generalize w2.alloc (.map #[] 0) = wm at *
  clear hmb
  refine (votes_any _ s v1 l wm (Rp.ext _ H0.out HBM.out) (Rp.ext _ H1.out HBM.out) HF0.out).mono ?_
  rintro e w4 ⟨v, rfl, hv, hn, hb4⟩
  have HV := Lib.hid hv
  have HNS : Hid (NoStr w4 mb) := Lib.hid (fun p hp s h => HMP.out.2 p hp s (by rw [← hb4.cell (p := p) (by rw [hp]; exact HMP.out.1)]; exact h))
  have hV3 : (votesOf s l).length ≤ 3000 := by omega
  have HVI : Hid (∀ v ∈ votesOf s l, v.item.length ≤ maxLen) := Lib.hid (fun v hv' => by
    obtain ⟨k, hk, rfl⟩ := List.getElem_of_mem hv'
    obtain ⟨ad, c, v1, v2, _, _, _, _, _, _, hz, _⟩ := votes_at hv hk
    exact hz)
  have HRS0 : Hid (RpSt (McRep mb) w w4 mb [] [] [] (.slice none 0 0) (.slice none 0 0) w4) := Lib.hid {
    row := World.ownsRow_nil _ _ _ _
    bads := World.ownsRow_nil _ _ _ _
    map := ⟨_, HI0.out.below hb4 HMP.out.1, fun d => rfl⟩
    keepM := McRep.keep
    same := Same.refl _ _
    below := HBM.out.trans (hb4.mono HBM.out.size)
    le := Nat.le_refl _
    mb0 := hmb0
    mb4 := Nat.lt_of_lt_of_le HMP.out.1 hb4.size }
  obtain ⟨V, hV⟩ : ∃ V, votesOf s l = V := ⟨_, rfl⟩
  rw [hV] at HV hV3 HVI HF2 hv hn
  have HVV := Lib.hid hV
  obtain ⟨AV, cV, rfl, hlv, hcv, _⟩ := Rp.sl_open hv
  unfold maxLen at hcv
  clear hV hv hb4 HMP HI0 HBM HB2
  have HRL := Lib.hid (fun k hk => repL_len s costs (mo : Int) V k hk)
  go_wp2_with fail
  go_loopw [13, 14, 43] (fun vo vb vi wr => ∃ k : Nat, k ≤ V.length ∧ vi = .int .i64 k ∧ Hid (RpSt (McRep mb) w w4 mb (repL s costs mo (V.take k)).1 (repL s costs mo (V.take k)).1 (repL s costs mo (V.take k)).2 vo vb wr)) (fun _ _ vi _ => V.length - (intOf vi).toNat)
  case atStart => exact ⟨0, by omega, rfl, HRS0⟩
  case round =>
    clear HRS0
    obtain ⟨k, hk, rfl, HST⟩ := hrel
    have hlen := HRL.out k hk
    have hks : k * s.length ≤ 3000 * 50 := Nat.mul_le_mul (by omega) hsl
    by_cases hlt : k < V.length
    · obtain ⟨ad, c', x1, x2, e1, hadb, c0, c1, c2, c3, hz1, hz2, hr, hwr⟩ := votes_at HV.out hlt
      cases e1
      have hne := HNS.out.ne c0
      rw [add_block] at hne
      have sm : ∀ p : Addr, p.block = ad.block → wr.cell? p = w4.cell? p := fun p hp => HST.out.same.cell (by rw [hp]; exact ⟨hadb, hne⟩)
      have c0 := (sm _ (add_block _ _)).trans c0
      have c1 := (sm ⟨(ad.add (k * 4)).block, _, none⟩ (add_block _ _)).trans c1
      have c2 := (sm ⟨(ad.add (k * 4)).block, _, none⟩ (add_block _ _)).trans c2
      have c3 := (sm ⟨(ad.add (k * 4)).block, _, none⟩ (add_block _ _)).trans c3
      have HR := Lib.hid (strs_avoid hr HNS.out)
      obtain ⟨A3, c3', rfl, hl3', hc3, _⟩ := Rp.sl_open hr
      obtain ⟨A4, c4', rfl, hl4', hc4, _⟩ := Rp.sl_open hwr
      have HRT := Lib.hid (repL_take s costs (mo : Int) V hlt)
      rw [List.length_map] at *
      clear hadb hne sm hr hwr
      generalize V[k] = x at *
      generalize repL s costs mo (V.take k) = st at *
      obtain ⟨st1, st2⟩ := st
      dsimp only at HST hlen
      obtain ⟨A5, c5, rfl, _⟩ := own_form HST.out.row
      obtain ⟨A6, c6, rfl, _⟩ := own_form HST.out.bads
      have HKV := Lib.hid (Blk.new wr 64 [.string (bstr x.item), .string (bstr x.digest), .slice A3 x.right.length c3', (.slice A4 x.wrong.length c4')])
      have HS1 := Lib.hid (HST.out.next ((Below.refl wr.heap.size wr).alloc (Nat.le_refl _) (.cells #[.string (bstr x.item), .string (bstr x.digest), .slice A3 x.right.length c3', (.slice A4 x.wrong.length c4')] 64)))
      have hbv : w4.heap.size ≤ wr.heap.size := HST.out.le
      have k1 : _ = some (Value.string (bstr x.digest)) := HKV.out.cell 1
      have he : (bstr x.digest).toList.isEmpty = decide (x.digest = []) := by
        rw [bstr_toList]; cases x.digest <;> simp
      have HE := Lib.hid he
      clear HST
      go_wp2_with fail
      clear k1 he c0 c1 c2 c3
      obtain ⟨bv, hbv'⟩ : ∃ bv, wr.heap.size = bv := ⟨_, rfl⟩
      rw [hbv'] at HKV hbv ⊢
      generalize wr.alloc (.cells #[.string (bstr x.item), .string (bstr x.digest), .slice A3 x.right.length c3', (.slice A4 x.wrong.length c4')] 64) = wv at *
      clear hbv'
      go_loopw [13, 18, 52] (fun vo vf vi wr => ∃ (k2 : Nat) (out : List Rpr) (fine : Bool), k2 ≤ s.length ∧ vi = .int .i64 k2 ∧ vf = .bool fine ∧ Hid (repV x costs mo st1 (s.take k2) = (out, fine)) ∧ Hid (RpSt (McRep mb) w w4 mb out out st2 vo (.slice A6 st2.length c6) wr) ∧ Hid (Blk wr bv 64 [.string (bstr x.item), .string (bstr x.digest), .slice A3 x.right.length c3', (.slice A4 x.wrong.length c4')])) (fun _ _ vi _ => s.length - (intOf vi).toNat)
      case atStart => exact ⟨0, st1, _, by omega, rfl, rfl, Lib.hid (by rw [List.take_zero]; rfl), HS1, HKV⟩
      case round =>
        clear HS1 HKV
        obtain ⟨k2, out, fine, hk2, rfl, rfl, HG, HST, HK⟩ := hrel
        have hol := repV_len x costs (mo : Int) st1 s k2 hk2
        rw [HG.out] at hol
        dsimp only at hol
        obtain ⟨A5, c5, rfl, _⟩ := own_form HST.out.row
        have k0 : _ = some (Value.string (bstr x.item)) := HK.out.cell 0
        have k1 : _ = some (Value.string (bstr x.digest)) := HK.out.cell 1
        have k2' : _ = some (Value.slice A3 x.right.length c3') := HK.out.cell 2
        by_cases hlt2 : k2 < s.length
        · obtain ⟨ads, cs', e1, hadb, c0, c1, c2, hz1'⟩ := site_full (Rp.below _ H0.out HST.out.below) hlt2
          cases e1
          have HGT := Lib.hid (repV_take x costs (mo : Int) st1 s hlt2)
          rw [HG.out] at HGT
          clear hadb
          generalize s[k2] = y at *
          have hbs := (Below.refl wr.heap.size wr).alloc (Nat.le_refl _) (.cells #[.string (bstr y.name), .int .i64 y.weight, .int .i64 y.room] 44)
          have HS6 := Lib.hid (HST.out.next hbs)
          have HK6 := Lib.hid (HK.out.same (same_below hbs) HK.out.lt)
          have hkb := Blk.new wr 44 [.string (bstr y.name), .int .i64 y.weight, .int .i64 y.room]
          have y0 : _ = some (Value.string (bstr y.name)) := hkb.cell 0
          have HYB := Lib.hid hkb
          have HR6 := Lib.hid (Rp.keep _ HR.out HS6.out.same (fun k h => h))
          have k0 : _ = some (Value.string (bstr x.item)) := HK6.out.cell 0
          have k1 : _ = some (Value.string (bstr x.digest)) := HK6.out.cell 1
          have k2' : _ = some (Value.slice A3 x.right.length c3') := HK6.out.cell 2
          clear hbs hkb HST HK
          by_cases hd : x.digest = []
          · have he : (bstr x.digest).toList.isEmpty = true := by rw [HE.out, decide_eq_true hd]
            have HN : Hid (repV x costs mo st1 (s.take (k2 + 1)) = (out, fine)) := Lib.hid (by rw [HGT.out, repStep_skip (.inl hd)])
            clear hd HE
            go_wp2_with fail
            go_roundw
            case rel => exact ⟨k2 + 1, out, fine, by omega, by go_num, rfl, HN, HS6, HK6⟩
            case measure => simp [intOf]; omega
          have he : (bstr x.digest).toList.isEmpty = false := by rw [HE.out, decide_eq_false hd]
          have HD := Lib.hid hd
          clear hd
          go_wp2_with fail
          refine (contains_any _ x.right y.name _ _ HR6.out).mono ?_
          rintro e w7 ⟨rfl, rfl⟩
          by_cases hm : y.name ∈ x.right
          · rw [decide_eq_true hm]
            have HN : Hid (repV x costs mo st1 (s.take (k2 + 1)) = (out, fine)) := Lib.hid (by rw [HGT.out, repStep_skip (.inr hm)])
            clear hm
            go_wp2_with fail
            go_roundw
            case rel => exact ⟨k2 + 1, out, fine, by omega, by go_num, rfl, HN, HS6, HK6⟩
            case measure => simp [intOf]; omega
          rw [decide_eq_false hm]
          have HM := Lib.hid hm
          clear hm
          go_wp2_with fail
          refine (cheapest_any v2 costs _ x.right y.name _ (Rp.ext _ H2.out HS6.out.below) (Rp.sub _ HR6.out (fun k h => Nat.lt_of_lt_of_le h.1 HS6.out.le)) hz1').mono ?_
          rintro e w8 ⟨rfl, hb8⟩
          have HS8 := Lib.hid (HS6.out.next hb8)
          have HK8 := Lib.hid (HK6.out.same (same_below hb8) HK6.out.lt)
          have k0 : _ = some (Value.string (bstr x.item)) := HK8.out.cell 0
          have y0 : w8.cell? ⟨wr.heap.size, 0, none⟩ = some (Value.string (bstr y.name)) := (HYB.out.same (same_below hb8) HYB.out.lt).cell 0
          clear hb8 HYB HS6 HK6 HR6
          by_cases hch : 0 ≤ (chL x.right y.name costs).2
          case neg =>
            rw [decide_eq_false hch]
            have HN : Hid (repV x costs mo st1 (s.take (k2 + 1)) = (out, false)) := Lib.hid (by rw [HGT.out, repStep_no HD.out HM.out hch])
            clear hch
            generalize chL x.right y.name costs = ch at *
            cases fine
            all_goals
              go_wp2_with fail
              go_roundw
              case rel => exact ⟨k2 + 1, out, false, by omega, by go_num, rfl, HN, HS8, HK8⟩
              case measure => simp [intOf]; omega
          rw [decide_eq_true hch]
          have HN : Hid (repV x costs mo st1 (s.take (k2 + 1)) = (out ++ [rprOf x costs mo out y], fine)) := Lib.hid (by rw [HGT.out, repStep_yes HD.out HM.out hch])
          have hfl : (chL x.right y.name costs).1.length ≤ 40 := by
            rcases chL_cases x.right y.name costs with h | ⟨c, hc, h, _⟩
            · rw [h]; exact Nat.zero_le _
            · rw [h]; exact (HCO.out c hc).2.1
          have HRP : Hid (rprOf x costs mo out y = ⟨x.item, (chL x.right y.name costs).1, y.name, ((sentN (chL x.right y.name costs).1 out / mo : Nat) : Int) + 1⟩) := Lib.hid (by rw [rprOf]; simp)
          clear hch
          generalize (chL x.right y.name costs).1 = frm at *
          rw [HRP.out] at HN
          obtain ⟨f, hi, hfd⟩ := HS8.out.map
          have HFD := Lib.hid hfd
          have HI := Lib.hid hi
          have hkey := keyD frm (by omega)
          have HKEY := Lib.hid hkey
          have hlk8 : (Instr.lookup 100 (.map (some mb)) (.string (bstr frm)) false).run Tryz.prog w8.drew = .ok (.int .i64 ((sentN frm out : Nat) : Int)) w8.drew := by
            have := (hi.below (Below.drew (Below.refl w8.heap.size w8)) hi.lt).look (T := 100) (Maps.string_keyed Tryz.underlying9) Tryz.underlying100 Tryz.underlying3 int_zero hkey (by trivial)
            rwa [hfd] at this
          have hsn := sentN_le frm out
          obtain ⟨n0, hn0⟩ : ∃ n0, sentN frm out = n0 := ⟨_, rfl⟩
          rw [hn0] at hlk8 hsn
          have HN0 := Lib.hid hn0
          have hrv := rat_val n0 mo (by omega)
          have hmo : ¬ mo = 0 := by omega
          have hB8 := HS8.out.le
          clear hi hfd hkey hn0
          obtain ⟨q, hq⟩ : ∃ q, n0 / mo = q := ⟨_, rfl⟩
          have hql : q ≤ n0 := by rw [← hq]; exact Nat.div_le_self _ _
          rw [hq] at hrv
          have hrv2 : IntKind.i64.wrap ((n0 : Int) / (mo : Int)) = (q : Int) := by rw [show ((n0 : Int) / (mo : Int)) = ((n0 / mo : Nat) : Int) from (Int.natCast_ediv n0 mo).symm, hq]; exact IntWalk.i64_in _ (by omega)
          have hrv3 : IntKind.i64.wrap ((q : Int) + 1) = (q : Int) + 1 := IntWalk.i64_in _ (by omega)
          rw [HN0.out, hq] at HN
          clear hq HRP HGT
          cases fine
          all_goals
            go_wp2_with fail
            go_region_law (refine step_app_new (w := w8) (by rfl) (.tmp 80) (.tmp 93) 55 (by rfl) 106 _ 4 56 Tryz.underlying55 rpr_info rfl (by decide) (m := 1) (rprCells ⟨x.item, frm, y.name, (q : Int) + 1⟩) 1 (by rfl) HS8.out.row hB8 (by rfl) (by rfl) (by rfl) (by decide) (by simp [rprCells, Value.oneCell']) (by unfold maxLen; omega) (by omega) ?_; intro g1 cc1 w9 HO9 HG9 HB9 HL9; have HS9 := Lib.hid (HS8.out.grow _ HO9.out HG9.out); have HK9 := Lib.hid (HS8.out.blk_grow HK8.out HG9.out); have HI9 := Lib.hid (HI.out.grown HG9.out (fun e => by have := own_ge HS8.out.row e.symm; have := HS8.out.mb4; omega)); have hlk9 : (Instr.lookup 100 (.map (some mb)) (.string (bstr frm)) false).run Tryz.prog w9 = .ok (.int .i64 (n0 : Int)) w9 := (by have := HI9.out.look (T := 100) (Maps.string_keyed Tryz.underlying9) Tryz.underlying100 Tryz.underlying3 int_zero HKEY.out (by trivial); rwa [HFD.out, HN0.out] at this); clear HO9 HG9 HB9 HL9 hlk8 HS8 HK8 HI)
            all_goals
              simp only [List.getElem_toArray, List.getElem_cons_succ, List.getElem_cons_zero, Act.put, List.setIfInBounds_toArray, List.set_cons_succ, List.set_cons_zero]
              go_wp2_with (at_mapUpdate; refine imap_update rfl _ _ _ 100 rfl HI9.out (Maps.string_keyed Tryz.underlying9) Tryz.underlying100 Tryz.underlying3 (by unfold maxLen; omega) (.string frm) rfl rfl rfl (WalkArith.wf_i64 (by omega)) HKEY.out (by trivial) ?_; intro w10 HI10 HG10)
              have hM : McRep mb w10 (out ++ [⟨x.item, frm, y.name, (q : Int) + 1⟩]) := by
                have hI := HI10.out
                rw [show out.length + 1 = (out ++ [(⟨x.item, frm, y.name, (q : Int) + 1⟩ : Rpr)]).length by simp] at hI
                refine ⟨_, hI, ?_⟩
                have := sent_put HFD.out ⟨x.item, frm, y.name, (q : Int) + 1⟩
                simp only [HN0.out] at this
                exact this
              have HS10 := Lib.hid (HS9.out.count hM HG10.out)
              have HK10 := Lib.hid (HS9.out.blk_count HK9.out hbv HG10.out)
              clear hM HI10 HG10 HS9 HK9
              go_roundw
              case rel => exact ⟨k2 + 1, out ++ [⟨x.item, frm, y.name, (q : Int) + 1⟩], _, by omega, by go_num, rfl, HN, HS10, HK10⟩
              case measure => simp [intOf]; omega
        · obtain rfl : k2 = s.length := by omega
          rw [List.take_length] at HG
          cases fine with
          | true =>
            have HW : Hid (repL s costs mo (V.take (k + 1)) = (out, st2)) := Lib.hid (by rw [HRT.out, repW]; simp only [HG.out]; rfl)
            clear HG HRT
            go_wp2_with fail
            go_roundw
            case rel => exact ⟨k + 1, by omega, by go_num, by rw [HW.out]; exact HST⟩
            case measure => simp [intOf]; omega
          | false =>
            have HW : Hid (repL s costs mo (V.take (k + 1)) = (out, st2 ++ [x.item])) := Lib.hid (by rw [HRT.out, repW]; simp only [HG.out]; rfl)
            clear HG HRT
            go_wp2_with (at_builtin; refine app_str rfl (.tmp 102) (.tmp 105) rfl HST.out.bads HST.out.le rfl rfl (by omega) ?_; intro g1 cc1 w9 HO9 HG9 HB9 HL9)
            have HS9 := Lib.hid (HST.out.lose _ HO9.out HG9.out)
            clear HO9 HG9 HB9 HL9 HST
            go_roundw
            case rel => exact ⟨k + 1, by omega, by go_num, by rw [HW.out]; exact HS9⟩
            case measure => simp [intOf]; omega
    · obtain rfl : k = V.length := by omega
      rw [List.take_length] at *
      have HSZR := Lib.hid (repL_sz (s := s) (costs := costs) (most := (mo : Int)) HVI.out (fun c hc => by have := (HCO.out c hc).2.1; unfold maxLen; omega) (fun x hx => by have := isNm_len40 (sites_nm (copies_ok HF0.out).1 x hx); unfold maxLen; omega) (by omega) hV3 hsl V.length (Nat.le_refl _))
      rw [List.take_length] at HSZR
      obtain ⟨A5, c5, rfl, _⟩ := own_form HST.out.row
      obtain ⟨A6, c6, rfl, _⟩ := own_form HST.out.bads
      by_cases h3 : 3000 < (repL s costs mo V).1.length
      · have HP := Lib.hid (RepPost.fail (s := s) (l := l) (costs := costs) (most := (mo : Int)) (show repFault s l costs mo = 2 by rw [HF2.out, if_pos h3]) (by decide) HST.out.below)
        have h3' : (3000 : Int) < ((repL s costs mo V).1.length : Int) := by omega
        go_wp2_with fail
        go_ret3
        exact HP.out
      · have HP := Lib.hid (RepPost.done (s := s) (l := l) (costs := costs) (most := (mo : Int)) (by rw [HF2.out, if_neg h3]) (by rw [HVV.out]; exact HST.out) (by rw [HVV.out]; exact HSZR.out.1) (by rw [HVV.out]; exact HSZR.out.2))
        have h3' : ¬ (3000 : Int) < ((repL s costs mo V).1.length : Int) := by omega
        clear HSZR HST
        go_wp2_with fail
        go_ret3
        exact HP.out
end Go.Proofs.YtnkdcmibafjplaaGreatDoor
