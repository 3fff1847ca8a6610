/-
  The law 'CareMovesAreFew' walked: it returns true.
-/
import Derived.Test.YtdeeiifcjbmmiaaDoorFewP
import Derived.Test.YtdeeiifcjbmmiaaDoorMovesC
import Derived.Test.YtdeeiifcjbmmiaaDoorDelS
import Derived.Test.YtdeeiifcjbmmiaaDoorAwake11
namespace Go.Proofs.YtdeeiifcjbmmiaaDoor
open Go.RowKit
set_option linter.unusedVariables false
set_option linter.unusedSimpArgs false

theorem opens_site : Opens Tryd.prog 39 siteRp := by
  refine opens_via _ (fun (p : ByteArray × Int × Int) => ⟨p.1.data.toList, p.2.1, p.2.2⟩) (fun p => by rw [bstr_eq]) ?_
  refine opens_struct Tryd.underlying39 (by kernel_rfl) ?_
  refine opensF_cons (by rfl) (by kernel_rfl) (opens_str Tryd.underlying9) ?_
  refine opensF_cons (by rfl) (by kernel_rfl) (opens_int Tryd.underlying3) ?_
  exact opensF_one (by rfl) (by kernel_rfl) (opens_int Tryd.underlying3)
theorem opens_sites : Opens Tryd.prog 22 (Rp.sl siteRp) := opens_sl Tryd.underlying22 (by kernel_rfl) (by decide) (of_decide_eq_true (by kernel_rfl)) opens_site
theorem mvF_sym {s less : List Site} {its : List (List UInt8)} {many : Int} (h : sitesFault s = 0) : mvFault s less its many = mvFault less s its many := by
  by_cases h2 : sitesFault less = 0
  · rw [mvF_3 h h2, mvF_3 h2 h]
  · rw [mvF_2 h h2, mvF_1 h2]
theorem ldF_one {s : List Site} {its : List (List UInt8)} {many : Int} {m : List UInt8} (hs : sitesFault s = 0) (hi : itemsFault its many = 0) (hm : m ∈ its) : ldFault s [m] many = 0 := by
  have hk := items_ok hi
  rw [ldF_2 hs]
  have hS : ∀ j, j < [m].length → namesF [m] j = 0 := fun j hj => by
    have : j = 0 := by have : j < 1 := hj; omega
    subst this
    exact namesF_3 (l := [m]) (i := 0) (Nat.succ_pos 0) (hk.2.2.1 m hm) (fun h => absurd h.1 (by decide))
  have hw : withinB many 1 50 = true := decide_eq_true hk.2.1
  rw [itemsFault_end (l := [m]) (show ¬ 3000 < 1 by decide) hS, if_neg (by rw [hw]; decide)]
theorem withoutSite2_any (v0 : Value) (s : List Site) (x : Int) (w : World) (h0 : (Rp.sl siteRp).ok w (· < w.heap.size) [v0] s) (hl0 : 0 < s.length) (hl : s.length ≤ 50) (hx : (Lit.int .i64 x).wf = true) :
    Calls Tryd.prog 6 #[v0, .int .i64 x] w fun e w' => ∃ v, ∃ m, ∃ nm, m < s.length ∧ (∀ h : m < s.length, s[m].name = nm) ∧ e = .returned (.tuple #[v, .string (bstr nm)]) ∧ (Rp.sl siteRp).ok w' (· < w'.heap.size) [v] (s.eraseIdx m) ∧ Below w.heap.size w w' := by
  refine (withoutSite_any v0 s x w h0 hl0 hl hx).mono ?_
  rintro e w' ⟨v, m, hm, he, h1, h2⟩
  exact ⟨v, m, _, hm, fun _ => rfl, he, h1, h2⟩
def lastI (l : List Mv) : Nat → List UInt8
  | 0 => []
  | k + 1 => (l.getD k default).item
theorem lastI_ne {l : List Mv} (hp : l.Pairwise (fun a b => a.item ≠ b.item)) (hn : ∀ m ∈ l, m.item ≠ []) {k : Nat} (hk : k < l.length) : l[k].item ≠ lastI l k := by
  cases k with
  | zero => exact hn _ (List.getElem_mem hk)
  | succ k =>
    show l[k + 1].item ≠ (l.getD k default).item
    rw [getD_at l default (show k < l.length by omega)]
    exact (List.pairwise_iff_getElem.1 hp k (k + 1) (by omega) hk (Nat.lt_succ_self k)).symm
theorem lastI_next {l : List Mv} {k : Nat} (hk : k < l.length) : lastI l (k + 1) = l[k].item := by
  show (l.getD k default).item = l[k].item
  rw [getD_at l default hk]
theorem mvL_nil {bef aft : List Site} {its : List (List UInt8)} {many : Int} (h : mvFault bef aft its many ≠ 0) : mvL bef aft its many = [] := if_neg h
theorem mv_fault0 {bef aft : List Site} {its : List (List UInt8)} {many : Int} (hs : sitesFault bef = 0) (h : mvFault bef aft its many = 0) : sitesFault aft = 0 ∧ itemsFault its many = 0 := by
  by_cases h2 : sitesFault aft = 0
  · exact ⟨h2, by rw [← mvF_3 (its := its) (many := many) hs h2]; exact h⟩
  · rw [mvF_2 hs h2] at h; exact absurd h h2
set_option maxRecDepth 100000 in
set_option maxHeartbeats 8000000 in
theorem fewLaw_any (v0 : Value) (s : List Site) (v1 : Value) (x : Int) (v2 : Value) (its : List (List UInt8)) (v3 : Value) (many : Int) (w : World) (h0 : (Rp.sl siteRp).ok w (· < w.heap.size) [v0] s) (f0 : (Rp.sl siteRp).fits s)
    (h1 : (Rp.int .i64).ok w (· < w.heap.size) [v1] x) (f1 : (Rp.int .i64).fits x) (h2 : namesRp.ok w (· < w.heap.size) [v2] its) (f2 : namesRp.fits its) (h3 : (Rp.int .i64).ok w (· < w.heap.size) [v3] many) (f3 : (Rp.int .i64).fits many) :
    Calls Tryd.prog 3 #[v0, v1, v2, v3] w fun e w' => e = .returned (.bool true) ∧ Below w.heap.size w w' := by
  obtain ⟨e1, hx⟩ := h1
  injection e1 with e1
  subst e1
  obtain ⟨e3, _⟩ := h3
  injection e3 with e3
  subst e3
  obtain ⟨A0, c0, rfl, hl0, hc0, _⟩ := Rp.sl_open h0
  unfold maxLen at hc0
  have H0 := Lib.hid h0
  have H2 := Lib.hid h2
  clear f0 f1 f2 f3 h0 h2
  by_cases hs2 : s.length < 2
  · have hb : (s.length : Int) < 2 := by omega
    go_enter Tryd.func3, Tryd.ntmps3
    go_wp2_with fail
    refine (awake_any _).mono ?_
    rintro e w6 ⟨rfl, hb6⟩
    have HB6 := Lib.hid hb6
    clear hb6
    go_wp2_with fail
    go_ret
    exact ⟨rfl, HB6.out⟩
  have hb : ¬ (s.length : Int) < 2 := by omega
  go_enter Tryd.func3, Tryd.ntmps3
  go_wp2_with fail
  refine (refCheckSites_any _ s w H0.out).mono ?_
  rintro e w1 ⟨rfl, hb1⟩
  have HB1 := Lib.hid hb1
  clear hb1
  by_cases ha : sitesFault s = 0
  case neg =>
    have hn : (sitesFault s != 0) = true := by simpa using ha
    clear ha
    generalize sitesFault s = ff at *
    go_wp2_with fail
    refine (awake_any _).mono ?_
    rintro e w6 ⟨rfl, hb6⟩
    have HB6 := Lib.hid (ext_trans HB1.out hb6)
    clear hb6
    go_wp2_with fail
    go_ret
    exact ⟨rfl, HB6.out⟩
  have HA := Lib.hid ha
  have HOS := Lib.hid (sok_of ha)
  have hfew := HOS.out.few
  rw [ha]
  clear ha
  go_wp2_with fail
  refine (withoutSite2_any _ s x w1 (Rp.ext _ H0.out HB1.out) (by omega) hfew hx).mono ?_
  rintro e w2 ⟨vl, m, nm, hm, hnm, rfl, hl, hb2⟩
  have HL := Lib.hid hl
  have HB2 := Lib.hid (ext_trans HB1.out hb2)
  have HSY := Lib.hid (mvF_sym (less := s.eraseIdx m) (its := its) (many := many) HA.out)
  have HM := Lib.hid hm
  have HNMX := Lib.hid hnm
  clear hl hb2 HB1 hnm hm
  go_wp2_with fail
  refine (moves_any _ s vl (s.eraseIdx m) v2 its many w2 (Rp.ext _ H0.out HB2.out) HL.out (Rp.ext _ H2.out HB2.out)).mono ?_
  rintro e w3 ⟨vg, rfl, hg, hb3⟩
  have HG := Lib.hid hg
  have HL3 := Lib.hid (Rp.ext _ HL.out hb3)
  have HB3 := Lib.hid (ext_trans HB2.out hb3)
  clear hg hb3 HB2 HL
  go_wp2_with fail
  refine (moves_any vl (s.eraseIdx m) _ s v2 its many w3 HL3.out (Rp.ext _ H0.out HB3.out) (Rp.ext _ H2.out HB3.out)).mono ?_
  rintro e w4 ⟨vb, rfl, hk, hb4⟩
  have HK := Lib.hid hk
  have HG4 := Lib.hid (Rp.ext _ HG.out hb4)
  have HB4 := Lib.hid (ext_trans HB3.out hb4)
  rw [← HSY.out]
  clear hk hb4 HB3 HL3 HG
  have HMF : Hid (mvFault s (s.eraseIdx m) its many = mvFault s (s.eraseIdx m) its many) := Lib.hid rfl
  obtain ⟨ff, hff⟩ : ∃ ff, ff = mvFault s (s.eraseIdx m) its many := ⟨_, rfl⟩
  have HFF := Lib.hid hff
  rw [← hff]
  clear hff HMF
  go_wp2_with fail
  refine (awake_any _).mono ?_
  rintro e w5 ⟨rfl, hb5⟩
  have HK5 := Lib.hid (Rp.ext _ HK.out hb5)
  have HG5 := Lib.hid (Rp.ext _ HG4.out hb5)
  have HB5 := Lib.hid (ext_trans HB4.out hb5)
  clear hb5 HK HG4 HB4
  by_cases hf0 : ff = 0
  case neg =>
    have hn : (ff != 0) = true := by simpa using hf0
    have e1 : mvL s (s.eraseIdx m) its many = [] := mvL_nil (by rw [← HFF.out]; exact hf0)
    have e2 : mvL (s.eraseIdx m) s its many = [] := mvL_nil (by rw [← HSY.out, ← HFF.out]; exact hf0)
    rw [e1] at HG5
    rw [e2] at HK5
    obtain ⟨A3, c3, rfl, _⟩ := Rp.sl_open HG5.out
    obtain ⟨A4, c4, rfl, _⟩ := Rp.sl_open HK5.out
    clear e1 e2 HG5 HK5 hf0
    go_wp2_with fail
    go_ret
    exact ⟨rfl, HB5.out⟩
  have HF0 : Hid (mvFault s (s.eraseIdx m) its many = 0) := Lib.hid (by rw [← HFF.out]; exact hf0)
  subst hf0
  clear HFF
  obtain ⟨hs0, hi0⟩ := mv_fault0 HA.out HF0.out
  have HS0 := Lib.hid hs0
  have HI0 := Lib.hid hi0
  have hio := items_ok hi0
  have HIO := Lib.hid hio
  obtain ⟨M, rfl⟩ : ∃ M : Nat, many = (M : Int) := ⟨many.toNat, by omega⟩
  have hM : 1 ≤ M := by omega
  have HGO := Lib.hid (gone_ok HOS.out HM.out (sok_of hs0) hio.2.2.2 hio.2.2.1 hM)
  have HBO := Lib.hid (back_ok HOS.out HM.out (sok_of hs0) hio.2.2.2 hio.2.2.1 hM)
  have hg1 : mvL s (s.eraseIdx m) its (M : Int) = mvAll s (s.eraseIdx m) its M := by rw [mvL, if_pos HF0.out, Int.toNat_natCast]
  have hg2 : mvL (s.eraseIdx m) s its (M : Int) = mvAll (s.eraseIdx m) s its M := by rw [mvL, if_pos (by rw [← HSY.out]; exact HF0.out), Int.toNat_natCast]
  rw [hg1] at HG5
  rw [hg2] at HK5
  clear hg1 hg2 hs0 hi0 hio HSY HF0 HS0
  rw [HNMX.out] at HGO HBO
  generalize mvAll s (s.eraseIdx m) its M = lg at *
  generalize mvAll (s.eraseIdx m) s its M = lb at *
  obtain ⟨Ag, cg, rfl, hgl, hgc, _⟩ := Rp.sl_open HG5.out
  obtain ⟨Ab, cb, rfl, hbl, hbc, _⟩ := Rp.sl_open HK5.out
  unfold maxLen at hgc hbc
  go_wp2_with fail
  go_loopw [15, 72] (fun vt vk wr => ∃ k : Nat, k ≤ lg.length ∧ vk = .int .i64 k ∧ vt = .string (bstr (lastI lg k)) ∧ Hid (Below w5.heap.size w5 wr)) (fun _ vk _ => lg.length - (intOf vk).toNat)
  case atStart => exact ⟨0, Nat.zero_le _, rfl, rfl, Below.refl _ _⟩
  case round =>
    obtain ⟨k, hk, rfl, rfl, HB⟩ := hrel
    have HBW := Lib.hid (ext_trans HB5.out HB.out)
    by_cases hlt : k < lg.length
    · obtain ⟨ad, c', e1, hadb, c1, c2, c3, hz⟩ := mv_at (Rp.below _ HG5.out HB.out) hlt
      cases e1
      have HNL := Lib.hid (lastI_ne HGO.out.items (fun y hy => (HGO.out.mem y hy).2.1) hlt)
      have HNX := Lib.hid (lastI_next hlt)
      have hgm := HGO.out.mem _ (List.getElem_mem hlt)
      have HLD := Lib.hid (ldF_one HA.out HI0.out hgm.1)
      have HIN := Lib.hid hgm.2.2
      clear hgm
      generalize lg[k] = mv at *
      obtain ⟨lt, hlt2⟩ : ∃ lt, lt = lastI lg k := ⟨_, rfl⟩
      rw [← hlt2] at HNL ⊢
      clear hlt2
      have hem : ((bstr mv.item).toList == (bstr lt).toList) = false := str_bne (fun e => HNL.out (bstr_inj e))
      have HBA := Lib.hid (HB.out.alloc HB.out.size (.cells #[.string (bstr mv.item), .string (bstr mv.frm), .string (bstr mv.to_)] 33))
      have HKX : Hid (Blk (wr.alloc (.cells #[.string (bstr mv.item), .string (bstr mv.frm), .string (bstr mv.to_)] 33)) wr.heap.size 33 [.string (bstr mv.item), .string (bstr mv.frm), .string (bstr mv.to_)]) := Lib.hid (Blk.new wr _ _)
      have r0 : _ = some (Value.string (bstr mv.item)) := HKX.out.cell 0
      have hzi := hz.1
      clear hz HB
      go_wp2_with fail
      refine (placesTop_any _ s mv.item (M : Int) _ (Rp.ext _ H0.out (ext_trans HB5.out HBA.out)) hzi).mono ?_
      rintro e w7 ⟨vp, rfl, hp, hb7⟩
      have HB7 := Lib.hid (below_tr2 HBA.out hb7 HBA.out.size)
      have HK7 := Lib.hid (HKX.out.same (same_below hb7) HKX.out.lt)
      have hpt : plT s mv.item (M : Int) = plL s mv.item M := by rw [plT, if_pos HLD.out, Int.toNat_natCast]
      rw [hpt] at hp
      have HP7 := Lib.hid hp
      rw [HLD.out]
      clear hp hb7 hpt r0 HBA HKX c1 c2 c3
      go_wp2_with fail
      refine (contains_any _ (plL s mv.item M) nm _ _ HP7.out).mono ?_
      rintro e w8 ⟨rfl, hw8⟩
      subst hw8
      rw [decide_eq_true HIN.out]
      have r7 : _ = some (Value.string (bstr mv.item)) := HK7.out.cell 0
      go_wp2_with fail
      go_roundw
      case rel => exact ⟨k + 1, by omega, by go_num, by rw [HNX.out], HB7⟩
      case measure => simp [intOf]; omega
    · go_wp2_with fail
      obtain ⟨wb, hwb⟩ : ∃ wb, wb = wr := ⟨_, rfl⟩
      subst hwb
      go_loopw [15, 103] (fun vt vk wq => ∃ k : Nat, k ≤ lb.length ∧ vk = .int .i64 k ∧ vt = .string (bstr (lastI lb k)) ∧ Hid (Below w5.heap.size w5 wq)) (fun _ vk _ => lb.length - (intOf vk).toNat)
      case atStart => exact ⟨0, Nat.zero_le _, rfl, rfl, HB⟩
      case round =>
        clear HBW HB
        obtain ⟨k, hk, rfl, rfl, HB⟩ := hrel
        have HBW := Lib.hid (ext_trans HB5.out HB.out)
        by_cases hlt : k < lb.length
        · obtain ⟨ad, c', e1, hadb, c1, c2, c3, hz⟩ := mv_at (Rp.below _ HK5.out HB.out) hlt
          cases e1
          have HNL := Lib.hid (lastI_ne HBO.out.items (fun y hy => (HBO.out.mem y hy).1) hlt)
          have HNX := Lib.hid (lastI_next hlt)
          have HTO := Lib.hid (HBO.out.mem _ (List.getElem_mem hlt)).2
          generalize lb[k] = mv at *
          obtain ⟨lt, hlt2⟩ : ∃ lt, lt = lastI lb k := ⟨_, rfl⟩
          rw [← hlt2] at HNL ⊢
          clear hlt2
          have hem : ((bstr mv.item).toList == (bstr lt).toList) = false := str_bne (fun e => HNL.out (bstr_inj e))
          have het : ((bstr mv.to_).toList == (bstr nm).toList) = true := str_beq (by rw [HTO.out])
          have HBA := Lib.hid (HB.out.alloc HB.out.size (.cells #[.string (bstr mv.item), .string (bstr mv.frm), .string (bstr mv.to_)] 33))
          have HKX : Hid (Blk (wr.alloc (.cells #[.string (bstr mv.item), .string (bstr mv.frm), .string (bstr mv.to_)] 33)) wr.heap.size 33 [.string (bstr mv.item), .string (bstr mv.frm), .string (bstr mv.to_)]) := Lib.hid (Blk.new wr _ _)
          have r0 : _ = some (Value.string (bstr mv.item)) := HKX.out.cell 0
          have r2 : _ = some (Value.string (bstr mv.to_)) := HKX.out.cell 2
          clear hz HB
          go_wp2_with fail
          go_roundw
          case rel => exact ⟨k + 1, by omega, by go_num, by rw [HNX.out], HBA⟩
          case measure => simp [intOf]; omega
        · go_wp2_with fail
          go_ret
          exact ⟨rfl, HBW.out⟩
end Go.Proofs.YtdeeiifcjbmmiaaDoor
