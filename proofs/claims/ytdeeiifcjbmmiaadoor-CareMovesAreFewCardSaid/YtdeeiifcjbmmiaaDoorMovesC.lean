/-
  Moves of package care.
-/
import Derived.Test.YtdeeiifcjbmmiaaDoorMvP
import Derived.Test.YtdeeiifcjbmmiaaDoorContS
import Derived.Test.YtdeeiifcjbmmiaaDoorPTopC
namespace Go.Proofs.YtdeeiifcjbmmiaaDoor
open Go.RowKit
set_option linter.unusedVariables false
set_option linter.unusedSimpArgs false

theorem names_own2 {w : World} {B : Nat} {v : Value} {l : List (List UInt8)} {n : Nat} (h : w.ownsRow B 9 1 v n (l.map fun t => .string (bstr t))) (hl : ∀ x ∈ l, x.length ≤ maxLen) : namesRp.ok w (· < w.heap.size) [v] l := names_of_own h hl
theorem strsAt_own {w : World} {B : Nat} {v : Value} {zs : List (List UInt8)} (h : w.ownsRow B 9 1 v zs.length (zs.map fun t => .string (bstr t))) (hz : ∀ x ∈ zs, x.length ≤ maxLen) : StrsAt w.heap.size w v zs := by
  obtain ⟨p, c, e, _, _, _⟩ := own_form h
  subst e
  refine ⟨p, c, rfl, fun j hj => ?_⟩
  rcases h.2 with ⟨_, h0⟩ | ⟨g, cap, cur, e1, _⟩
  · omega
  · injection e1 with e1 _ _
    subst e1
    refine ⟨g, 0, rfl, (h.lt g rfl).2, ?_⟩
    have h2 := h.cells (g := g) rfl j (.string (bstr zs[j])) (by rw [List.getElem?_map, List.getElem?_eq_getElem hj]; rfl)
    rw [show (⟨g, 0, none⟩ : Addr).add j = ⟨g, 0 + j, none⟩ from by unfold Addr.add; split <;> simp_all] at h2
    exact h2
theorem own_keptT {w w' : World} {B B' : Nat} {e e' : TypeId} {sz sz' n n' : Nat} {v v' : Value} {xs xs' : List Value} (h : w.ownsRow B e sz v n xs) (h' : w.ownsRow B' e' sz' v' n' xs') (hne : e ≠ e') (hg : w.grownBy w' v'.ownBlock) : w'.ownsRow B e sz v n xs := by
  refine h.kept hg ?_
  cases hv : v.ownBlock with
  | none => exact .inl rfl
  | some g => exact .inr (fun e => own_ne h h' hne hv e.symm)
theorem pl_names {s : List Site} (h : SOk s) {it : List UInt8} {M : Nat} : ∀ x ∈ plL s it M, x.length ≤ maxLen := fun x hx => by
  obtain ⟨y, hy, rfl⟩ := plL_mem h hx
  have := h.nm y hy
  unfold maxLen
  omega
theorem mv_flat_len (l : List Mv) : (l.flatMap mvCells).length = l.length * 3 := flat_len (f := mvCells) (sz := 3) (fun _ => rfl) l
set_option maxRecDepth 100000 in
set_option maxHeartbeats 1000000 in
theorem mvFn_any (v : Value) (l : List Site) (s : List UInt8) (bx : Nat) (w : World) (h0 : (Rp.sl siteRp).ok w (· < w.heap.size) [v] l) (hb : w.cell? ⟨bx, 0, none⟩ = some v) :
    Calls Tryd.prog 20 #[.string (bstr s), .pointer (some ⟨bx, 0, none⟩)] w fun e w' => e = .returned (.bool (decide (0 ≤ siteIdx l s))) ∧ Below w.heap.size w w' := by
  obtain ⟨A, c, rfl, hl, hc, _⟩ := Rp.sl_open h0
  go_enter Tryd.func20, Tryd.ntmps20
  go_wp2_with fail
  refine (siteAt_any _ l s w h0).mono ?_
  rintro e w1 ⟨rfl, hb1⟩
  have HB := Lib.hid hb1
  clear hb1 hb h0
  go_wp2_with fail
  go_ret
  exact ⟨rfl, HB.out⟩
def IdxMv (l : List Site) (ts : List (List UInt8)) (e : Ending) : Prop := ∃ i : Int, e = .returned (.int .i64 i) ∧ ((i = -1 ∧ fromF l ts = []) ∨ ∃ k : Nat, ∃ hk : k < ts.length, i = (k : Int) ∧ ts[k] = fromF l ts)
set_option maxRecDepth 100000 in
set_option maxHeartbeats 2000000 in
theorem idxMv_any (vt : Value) (ts : List (List UInt8)) (v : Value) (l : List Site) (bx : Nat) (w : World) (ht : namesRp.ok w (· < w.heap.size) [vt] ts) (h0 : (Rp.sl siteRp).ok w (· < w.heap.size) [v] l) (hb : w.cell? ⟨bx, 0, none⟩ = some v) (hn : ∀ y ∈ ts, y ≠ []) :
    Calls Tryd.prog 19 #[vt, .func (.func 20) #[] #[.pointer (some ⟨bx, 0, none⟩)]] w fun e w' => IdxMv l ts e ∧ Below w.heap.size w w' := by
  obtain ⟨A, c, rfl, hl, hc, _⟩ := names_open ht
  unfold maxLen at hc
  have hbx := World.block_lt_of_cell? w _ hb
  have H0 := Lib.hid h0
  have HT := Lib.hid ht
  have HBX := Lib.hid hb
  have HNE := Lib.hid hn
  clear h0 ht hb hn
  go_enter Tryd.func19, Tryd.ntmps19
  go_wp2_with fail
  go_loopw [8] (fun i wr => ∃ k : Nat, k ≤ ts.length ∧ i = .int .i64 k ∧ Hid (∀ y ∈ ts.take k, siteIdx l y < 0) ∧ Hid (Below w.heap.size w wr)) (fun i _ => ts.length - (intOf i).toNat)
  case atStart => exact ⟨0, by omega, rfl, by simp [Hid], Below.refl _ _⟩
  case round =>
    obtain ⟨k, hk, rfl, HS, HB⟩ := hrel
    by_cases hlt : k < ts.length
    · obtain ⟨ad, cc, e1, hadb, c0, hz⟩ := names_at (namesRp.below HT.out HB.out) hlt
      injection e1 with e1 _ e2
      subst e1 e2
      have hcon := Lib.hid (mvFn_any v l ts[k] bx wr (Rp.ext _ H0.out HB.out) ((HB.out.cell (p := ⟨bx, 0, none⟩) hbx).trans HBX.out))
      have HY : Hid (0 ≤ siteIdx l ts[k] → IdxMv l ts (.returned (.int .i64 (k : Int)))) := Lib.hid (fun h => ⟨k, rfl, .inr ⟨k, hlt, rfl, (fromF_hit l hlt (fun y hy => by have := HS.out y hy; omega) h (HNE.out _ (List.getElem_mem hlt))).symm⟩⟩)
      have HN : Hid (siteIdx l ts[k] < 0 → ∀ y ∈ ts.take (k + 1), siteIdx l y < 0) := Lib.hid (fun h y hy => by
        rw [List.take_succ_eq_append_getElem hlt, List.mem_append, List.mem_singleton] at hy
        rcases hy with e | e
        · exact HS.out y e
        · rw [e]; exact h)
      generalize ts[k] = x at *
      go_wp2_with fail
      refine hcon.out.mono ?_
      rintro e w5 ⟨rfl, hb5⟩
      have HB5 := Lib.hid (HB.out.trans (hb5.mono HB.out.size))
      clear hb5 hcon c0
      by_cases hq : 0 ≤ siteIdx l x
      · have HF := Lib.hid (HY.out hq)
        rw [decide_eq_true hq]
        clear hq HY HN
        go_wp2_with fail
        go_ret
        exact ⟨HF.out, HB5.out⟩
      · have F5 := Lib.hid (HN.out (by omega))
        rw [decide_eq_false hq]
        clear hq HY HN
        go_wp2_with fail
        go_roundw
        case rel => exact ⟨k + 1, by omega, by go_num, F5, HB5⟩
        case measure => simp [intOf]; omega
    · have HF : Hid (fromF l ts = []) := Lib.hid (fromF_miss l (fun y hy => by have := HS.out y (by rw [List.take_of_length_le (by omega)]; exact hy); omega))
      go_wp2_with fail
      go_ret
      exact ⟨⟨-1, rfl, .inl ⟨rfl, HF.out⟩⟩, HB.out⟩
set_option maxRecDepth 100000 in
set_option maxHeartbeats 16000000 in
theorem moves_any (v0 : Value) (bef : List Site) (v1 : Value) (aft : List Site) (v2 : Value) (its : List (List UInt8)) (many : Int) (w : World) (h0 : (Rp.sl siteRp).ok w (· < w.heap.size) [v0] bef) (h1 : (Rp.sl siteRp).ok w (· < w.heap.size) [v1] aft) (h2 : namesRp.ok w (· < w.heap.size) [v2] its) :
    Calls Tryd.prog 7 #[v0, v1, v2, .int .i64 many] w (MvPost bef aft its many w) := by
  obtain ⟨A0, k0, rfl, _⟩ := Rp.sl_open h0
  obtain ⟨A1, k1, rfl, _⟩ := Rp.sl_open h1
  obtain ⟨A2, c2, rfl, hl2, hc2, _⟩ := names_open h2
  unfold maxLen at hc2
  have H0 := Lib.hid h0
  have H1 := Lib.hid h1
  have H2 := Lib.hid h2
  clear h0 h1 h2
  have hba := (Below.refl w.heap.size w).alloc (Nat.le_refl _) (.cells #[.slice A1 aft.length k1] 22)
  have HB0 := Lib.hid hba
  have HBK : Hid (Blk (w.alloc (.cells #[.slice A1 aft.length k1] 22)) w.heap.size 22 [.slice A1 aft.length k1]) := Lib.hid (Blk.new w _ _)
  clear hba
  go_enter Tryd.func7, Tryd.ntmps7
  go_wp2_with fail
  refine (checkSites_any _ bef _ (Rp.ext _ H0.out HB0.out)).mono ?_
  rintro e w1 ⟨rfl, hb⟩
  have HB1 := Lib.hid (below_tr2 HB0.out hb HB0.out.size)
  have HBK1 := Lib.hid (HBK.out.same (same_below hb) HBK.out.lt)
  clear hb HB0
  by_cases ha : sitesFault bef = 0
  case neg =>
    have HF : Hid (mvFault bef aft its many = sitesFault bef) := Lib.hid (mvF_1 ha)
    have HN := Lib.hid ha
    have hn : (sitesFault bef != 0) = true := by simpa using ha
    clear ha
    generalize sitesFault bef = ff at *
    go_wp2_with fail
    go_ret2
    exact MvPost.bad HF.out HN.out HB1.out
  have HA := Lib.hid ha
  have HOB := Lib.hid (sok_of ha)
  rw [ha]
  clear ha
  have x1 : w1.cell? ⟨w.heap.size, 0, none⟩ = some (.slice A1 aft.length k1) := HBK1.out.cell 0
  go_wp2_with fail
  refine (checkSites_any _ aft _ (Rp.ext _ H1.out HB1.out)).mono ?_
  rintro e w2 ⟨rfl, hb⟩
  have HB2 := Lib.hid (below_tr2 HB1.out hb HB1.out.size)
  have HBK2 := Lib.hid (HBK1.out.same (same_below hb) HBK1.out.lt)
  clear hb HB1
  by_cases ha : sitesFault aft = 0
  case neg =>
    have HF : Hid (mvFault bef aft its many = sitesFault aft) := Lib.hid (mvF_2 HA.out ha)
    have HN := Lib.hid ha
    have hn : (sitesFault aft != 0) = true := by simpa using ha
    clear ha
    generalize sitesFault aft = ff at *
    go_wp2_with fail
    go_ret2
    exact MvPost.bad HF.out HN.out HB2.out
  have HOA := Lib.hid (sok_of ha)
  have HF2 := Lib.hid (mvF_3 (its := its) (many := many) HA.out ha)
  have HNE : Hid (∀ x ∈ bef, x.name ≠ []) := Lib.hid (fun x hx e => by have h := nm_len (sites_nmP HA.out x hx); rw [e] at h; exact absurd h.1 (by decide))
  rw [ha]
  clear ha
  go_wp2_with fail
  refine (checkItems_any _ its many _ (Rp.ext _ H2.out HB2.out)).mono ?_
  rintro e w3 ⟨rfl, hb⟩
  have HB3 := Lib.hid (below_tr2 HB2.out hb HB2.out.size)
  have HBK3 := Lib.hid (HBK2.out.same (same_below hb) HBK2.out.lt)
  clear hb HB2
  by_cases ha : itemsFault its many = 0
  case neg =>
    have HF : Hid (mvFault bef aft its many = itemsFault its many) := HF2
    have HN := Lib.hid ha
    have hn : (itemsFault its many != 0) = true := by simpa using ha
    clear ha
    generalize itemsFault its many = ff at *
    go_wp2_with fail
    go_ret2
    exact MvPost.bad HF.out HN.out HB3.out
  have HF : Hid (mvFault bef aft its many = 0) := Lib.hid (HF2.out.trans ha)
  have hok := items_ok ha
  have HNI : Hid (∀ x ∈ its, x.length ≤ 40) := Lib.hid (fun x hx => nm_len40 (hok.2.2.1 x hx))
  obtain ⟨M, rfl⟩ : ∃ M : Nat, many = (M : Int) := ⟨many.toNat, by omega⟩
  rw [ha]
  clear ha HF2
  have hm1 : 1 ≤ M := by omega
  have hm2 : M ≤ 50 := by omega
  have hi3 : its.length ≤ 3000 := hok.1
  clear hok
  go_wp2_with fail
  go_loopw [13, 39] (fun vo vi wr => ∃ k : Nat, k ≤ its.length ∧ vi = .int .i64 k ∧ Hid (wr.ownsRow w3.heap.size 33 3 vo (mvAll bef aft (its.take k) M).length ((mvAll bef aft (its.take k) M).flatMap mvCells)) ∧ Hid (Below w3.heap.size w3 wr)) (fun _ vi _ => its.length - (intOf vi).toNat)
  case atStart => exact ⟨0, Nat.zero_le _, rfl, by rw [List.take_zero]; exact Lib.hid (World.ownsRow_nil _ _ _ _), Below.refl _ _⟩
  case round =>
    obtain ⟨k, hk, rfl, HO, HB⟩ := hrel
    by_cases hlt : k < its.length
    · obtain ⟨ad, c', e1, hadb, c0, hz⟩ := names_at (namesRp.below H2.out (HB3.out.trans (HB.out.mono HB3.out.size))) hlt
      cases e1
      have hil : its[k].length ≤ 40 := HNI.out _ (List.getElem_mem hlt)
      have HNX := Lib.hid (mvAll_next bef aft its M hlt)
      have hbl := mvAll_len bef aft M hm2 (its.take k)
      rw [List.length_take, Nat.min_eq_left hk] at hbl
      generalize mvAll bef aft (its.take k) M = base at *
      generalize hx : its[k] = it at *
      clear hx hz
      obtain ⟨wb, hwb⟩ : ∃ wb, wb = wr := ⟨_, rfl⟩
      subst hwb
      have HBW := Lib.hid (HB3.out.trans (HB.out.mono HB3.out.size))
      go_wp2_with fail
      refine (places_any _ bef it M wb (Rp.ext _ H0.out HBW.out) HOB.out.nm HOB.out.rise HOB.out.pos HOB.out.few hm1 hm2 (by omega)).mono ?_
      rintro e w5 ⟨v5, rfl, hO, hb5⟩
      have HB5 := Lib.hid (HB.out.trans (hb5.mono HB.out.size))
      have HO5 := Lib.hid (own_blwP HO.out hb5)
      have HPM := Lib.hid (pl_names HOB.out (it := it) (M := M))
      have HPE : Hid (∀ y ∈ plL bef it M, y ≠ []) := Lib.hid (fun y hy => by obtain ⟨z, hz, rfl⟩ := plL_mem HOB.out hy; exact HNE.out z hz)
      have hpl := plL_len bef it M
      have HIN : Hid (mvIn bef aft M it = (newL (plL bef it M) (srtN (plL aft it M))).map (mkMv it (fromF aft (plL bef it M)))) := Lib.hid rfl
      rw [HIN.out] at HNX
      clear HIN
      generalize plL bef it M = was at *
      have HW5 := Lib.hid hO
      have HZ5 := Lib.hid hb5.size
      have HZB := Lib.hid HB.out.size
      clear hO hb5 HB HO HBW
      have HBW5 := Lib.hid (HB3.out.trans (HB5.out.mono HB3.out.size))
      have x5 : w5.cell? ⟨w.heap.size, 0, none⟩ = some (.slice A1 aft.length k1) := (HBK3.out.same (same_below HB5.out) HBK3.out.lt).cell 0
      have HIX := Lib.hid (idxMv_any _ was _ aft w.heap.size w5 (names_own2 HW5.out HPM.out) (Rp.ext _ H1.out HBW5.out) x5 HPE.out)
      go_wp2_with fail
      refine HIX.out.mono ?_
      rintro e w6 ⟨⟨i, rfl, hi⟩, hb6⟩
      have HW6 := Lib.hid (own_blwP HW5.out hb6)
      have HO6 := Lib.hid (own_blwP HO5.out hb6)
      have HB6 := Lib.hid (HB5.out.trans (hb6.mono HB5.out.size))
      have HZ6 := Lib.hid (show wb.heap.size ≤ w6.heap.size from by have h1 := hb6.size; have h2 := HZ5.out; omega)
      have HBW6 := Lib.hid (HB3.out.trans (HB6.out.mono HB3.out.size))
      have x6 : w6.cell? ⟨w.heap.size, 0, none⟩ = some (.slice A1 aft.length k1) := (HBK3.out.same (same_below HB6.out) HBK3.out.lt).cell 0
      obtain ⟨fr, hfr⟩ : ∃ fr, fr = fromF aft was := ⟨_, rfl⟩
      have HFR := Lib.hid hfr
      rw [← hfr] at hi
      clear hfr hb6 HIX x5 HBW5 HB5 HO5 HW5 HPE HZ5
      rcases hi with ⟨rfl, hf⟩ | ⟨kk, hkk, rfl, hf⟩
      · have hfe : fr = [] := hf
        subst hfe
        clear hf
        go_wp2_with fail
        refine (places_any _ aft it M w6 (Rp.ext _ H1.out HBW6.out) HOA.out.nm HOA.out.rise HOA.out.pos HOA.out.few hm1 hm2 (by omega)).mono ?_
        rintro e w7 ⟨v7, rfl, hO, hb7⟩
        have HW7 := Lib.hid (own_blwP HW6.out hb7)
        have HO7 := Lib.hid (own_blwP HO6.out hb7)
        have HB7 := Lib.hid (HB6.out.trans (hb7.mono HB6.out.size))
        have HZ7 := Lib.hid (show wb.heap.size ≤ w7.heap.size from Nat.le_trans HZ6.out hb7.size)
        have HIM := Lib.hid (pl_names HOA.out (it := it) (M := M))
        have hpa := plL_len aft it M
        generalize plL aft it M = is at *
        have HI7 := Lib.hid hO
        obtain ⟨A7, c7, hv7, hlc7, hcm7, _⟩ := own_form hO
        subst hv7
        clear hO hb7 HW6 HO6 HB6 HBW6 HZ6 HBK3
        go_wp2_with fail
        refine (values_any _ _ _ w7).mono ?_
        rintro e w8 ⟨rfl, hw8⟩
        have hal := (Below.refl w7.heap.size w7).alloc (Nat.le_refl _) (.cells #[.slice A7 is.length c7] 23)
        rw [← hw8] at hal
        have hcv : w8.cell? ⟨w7.heap.size, 0, none⟩ = some (.slice A7 is.length c7) := by rw [hw8]; exact (Blk.new w7 23 [.slice A7 is.length c7]).cell 0
        have hsz8 : w7.heap.size < w8.heap.size := by rw [hw8]; simp
        have hSA : StrsAt w8.heap.size w8 (.slice A7 is.length c7) is := strsAt_own (own_blwP HI7.out hal) HIM.out
        have HCON := Lib.hid (sortedV_any w7.heap.size _ is (by omega) w8 hsz8 hcv hSA)
        have HW8 := Lib.hid (own_blwP HW7.out hal)
        have HO8 := Lib.hid (own_blwP HO7.out hal)
        have HB8 := Lib.hid (HB7.out.trans (hal.mono HB7.out.size))
        have HZ8 := Lib.hid (show wb.heap.size ≤ w8.heap.size from Nat.le_trans HZ7.out hal.size)
        clear hal hcv hsz8 hSA hw8 HI7 HW7 HO7 HB7 HZ7
        go_wp2_with fail
        refine HCON.out.mono ?_
        rintro e w9 ⟨v9, ts, rfl, hp, hs, hO9, hb9⟩
        have HTS : Hid (ts = srtN is) := Lib.hid (srtN_is hp hs)
        have htl : ts.length = is.length := hp.length_eq
        have HTM : Hid (∀ x ∈ ts, x.length ≤ maxLen) := Lib.hid (fun x hx => HIM.out x (hp.mem_iff.1 hx))
        have HT9 := Lib.hid (own_baseP hO9 HZ8.out)
        have HW9 := Lib.hid (own_blwP HW8.out hb9)
        have HO9 := Lib.hid (own_blwP HO8.out hb9)
        have HB9 := Lib.hid (HB8.out.trans (hb9.mono HB8.out.size))
        obtain ⟨A9, c9, hv9, hlc9, hcm9, _⟩ := own_form HT9.out
        subst hv9
        unfold maxLen at hcm9
        clear hp hs hO9 hb9 HCON HW8 HO8 HB8 HZ8 HIM
        go_wp2_with fail
        go_loopw [13, 63] (fun vo vj wq => ∃ j : Nat, j ≤ ts.length ∧ vj = .int .i64 j ∧ Hid (wq.ownsRow w3.heap.size 33 3 vo (base ++ (newL was (ts.take j)).map (mkMv it [])).length ((base ++ (newL was (ts.take j)).map (mkMv it [])).flatMap mvCells)) ∧ Hid (wq.ownsRow wb.heap.size 9 1 v5 was.length (was.map fun t => .string (bstr t))) ∧ Hid (wq.ownsRow wb.heap.size 9 1 (.slice A9 ts.length c9) ts.length (ts.map fun t => .string (bstr t))) ∧ Hid (Below w3.heap.size w3 wq)) (fun _ vj _ => ts.length - (intOf vj).toNat)
        case atStart => exact ⟨0, Nat.zero_le _, rfl, by rw [List.take_zero, show (newL was []).map (mkMv it []) = [] from rfl, List.append_nil]; exact HO9, HW9, HT9, HB9⟩
        case round =>
          clear HO9 HW9 HT9 HB9
          obtain ⟨j, hj, rfl, HOQ, HWQ, HTQ, HBQ⟩ := hrel
          by_cases hjl : j < ts.length
          · obtain ⟨ad6, c6, e6, _, q0, hz⟩ := names_at (l := ts) (names_own2 HTQ.out HTM.out) hjl
            cases e6
            have HNL := Lib.hid (newL_next was ts hjl)
            have hnl : (newL was (ts.take j)).length ≤ j := by
              unfold newL
              refine Nat.le_trans (List.length_filter_le _ _) ?_
              rw [List.length_take]
              exact Nat.min_le_left _ _
            generalize newL was (ts.take j) = nw at *
            generalize hx : ts[j] = x at *
            clear hx hz
            go_wp2_with fail
            refine (contains_any _ was x _ _ (names_of_own HWQ.out HPM.out)).mono ?_
            rintro e w12 ⟨rfl, hw⟩
            subst hw
            by_cases hin : x ∈ was
            · rw [decide_eq_true hin]
              have HNK : Hid (newL was (ts.take (j + 1)) = nw) := Lib.hid (by rw [HNL.out, if_pos hin, List.append_nil])
              clear hin HNL q0
              go_wp2_with fail
              go_roundw
              case rel => exact ⟨j + 1, by omega, by go_num, by rw [HNK.out]; exact HOQ, HWQ, HTQ, HBQ⟩
              case measure => simp [intOf]; omega
            · rw [decide_eq_false hin]
              have HNK : Hid (newL was (ts.take (j + 1)) = nw ++ [x]) := Lib.hid (by rw [HNL.out, if_neg hin])
              clear hin HNL q0
              have hbz : w3.heap.size ≤ w12.heap.size := HBQ.out.size
              have hlen : (base ++ nw.map (mkMv it [])).length ≤ 150050 := by rw [List.length_append, List.length_map]; omega
              generalize hbn : (base ++ nw.map (mkMv it [])) = bn at *
              have HBN := Lib.hid hbn
              clear hbn
              go_wp2_with (at_builtin; refine app_new (w := w12) rfl (.tmp 71) (.tmp 76) 29 rfl 33 (.agg #[.string ⟨#[]⟩, .string ⟨#[]⟩, .string ⟨#[]⟩]) 3 48 Tryd.underlying29 mv_info rfl (by decide) (m := 1) [.string (bstr it), .string (bstr []), .string (bstr x)] HOQ.out hbz rfl rfl rfl (by decide) (by simp [Value.oneCell']) (by unfold maxLen; omega) (by omega) ?_; intro g4 c4 w4 HB4 HG4 HD4 HL4)
              have HO4 : Hid (w4.ownsRow w3.heap.size 33 3 (.slice (some ⟨g4, 0, none⟩) (bn.length + 1) c4) (base ++ (newL was (ts.take (j + 1))).map (mkMv it [])).length ((base ++ (newL was (ts.take (j + 1))).map (mkMv it [])).flatMap mvCells)) := Lib.hid (by
                rw [HNK.out, List.map_append, ← List.append_assoc, HBN.out, List.length_append, List.flatMap_append]
                simpa [mvCells, mkMv] using HB4.out)
              have HW4 := Lib.hid (own_keptT HWQ.out HOQ.out (by decide) HG4.out)
              have HT4 := Lib.hid (own_keptT HTQ.out HOQ.out (by decide) HG4.out)
              go_roundw
              case rel => exact ⟨j + 1, by omega, by go_num, HO4, HW4, HT4, HD4.out _ HBQ.out⟩
              case measure => simp [intOf]; omega
          · have HTE : Hid (ts.take j = ts) := Lib.hid (List.take_of_length_le (by omega))
            rw [HTE.out] at HOQ
            have HEND : Hid (base ++ (newL was ts).map (mkMv it []) = mvAll bef aft (its.take (k + 1)) M) := Lib.hid (by rw [HNX.out, ← HFR.out, ← HTS.out])
            rw [HEND.out] at HOQ
            clear HTE HEND
            go_wp2_with fail
            go_roundw
            case rel => exact ⟨k + 1, by omega, by go_num, HOQ, HBQ⟩
            case measure => simp [intOf]; omega
      · obtain ⟨ad6, c6, e6, _, q0, hz⟩ := names_at (l := was) (names_own2 HW6.out HPM.out) hkk
        have HE6 := Lib.hid e6
        rw [e6]
        rw [hf] at q0
        have hkI : (0 : Int) ≤ (kk : Int) := by omega
        have hkL : (kk : Int) < (was.length : Int) := by omega
        clear hz e6
        go_wp2_with fail
        rw [← HE6.out]
        clear q0 hf hkI hkL HE6
        refine (places_any _ aft it M w6 (Rp.ext _ H1.out HBW6.out) HOA.out.nm HOA.out.rise HOA.out.pos HOA.out.few hm1 hm2 (by omega)).mono ?_
        rintro e w7 ⟨v7, rfl, hO, hb7⟩
        have HW7 := Lib.hid (own_blwP HW6.out hb7)
        have HO7 := Lib.hid (own_blwP HO6.out hb7)
        have HB7 := Lib.hid (HB6.out.trans (hb7.mono HB6.out.size))
        have HZ7 := Lib.hid (show wb.heap.size ≤ w7.heap.size from Nat.le_trans HZ6.out hb7.size)
        have HIM := Lib.hid (pl_names HOA.out (it := it) (M := M))
        have hpa := plL_len aft it M
        generalize plL aft it M = is at *
        have HI7 := Lib.hid hO
        obtain ⟨A7, c7, hv7, hlc7, hcm7, _⟩ := own_form hO
        subst hv7
        clear hO hb7 HW6 HO6 HB6 HBW6 HZ6 HBK3
        go_wp2_with fail
        refine (values_any _ _ _ w7).mono ?_
        rintro e w8 ⟨rfl, hw8⟩
        have hal := (Below.refl w7.heap.size w7).alloc (Nat.le_refl _) (.cells #[.slice A7 is.length c7] 23)
        rw [← hw8] at hal
        have hcv : w8.cell? ⟨w7.heap.size, 0, none⟩ = some (.slice A7 is.length c7) := by rw [hw8]; exact (Blk.new w7 23 [.slice A7 is.length c7]).cell 0
        have hsz8 : w7.heap.size < w8.heap.size := by rw [hw8]; simp
        have hSA : StrsAt w8.heap.size w8 (.slice A7 is.length c7) is := strsAt_own (own_blwP HI7.out hal) HIM.out
        have HCON := Lib.hid (sortedV_any w7.heap.size _ is (by omega) w8 hsz8 hcv hSA)
        have HW8 := Lib.hid (own_blwP HW7.out hal)
        have HO8 := Lib.hid (own_blwP HO7.out hal)
        have HB8 := Lib.hid (HB7.out.trans (hal.mono HB7.out.size))
        have HZ8 := Lib.hid (show wb.heap.size ≤ w8.heap.size from Nat.le_trans HZ7.out hal.size)
        clear hal hcv hsz8 hSA hw8 HI7 HW7 HO7 HB7 HZ7
        go_wp2_with fail
        refine HCON.out.mono ?_
        rintro e w9 ⟨v9, ts, rfl, hp, hs, hO9, hb9⟩
        have HTS : Hid (ts = srtN is) := Lib.hid (srtN_is hp hs)
        have htl : ts.length = is.length := hp.length_eq
        have HTM : Hid (∀ x ∈ ts, x.length ≤ maxLen) := Lib.hid (fun x hx => HIM.out x (hp.mem_iff.1 hx))
        have HT9 := Lib.hid (own_baseP hO9 HZ8.out)
        have HW9 := Lib.hid (own_blwP HW8.out hb9)
        have HO9 := Lib.hid (own_blwP HO8.out hb9)
        have HB9 := Lib.hid (HB8.out.trans (hb9.mono HB8.out.size))
        obtain ⟨A9, c9, hv9, hlc9, hcm9, _⟩ := own_form HT9.out
        subst hv9
        unfold maxLen at hcm9
        clear hp hs hO9 hb9 HCON HW8 HO8 HB8 HZ8 HIM
        go_wp2_with fail
        go_loopw [13, 63] (fun vo vj wq => ∃ j : Nat, j ≤ ts.length ∧ vj = .int .i64 j ∧ Hid (wq.ownsRow w3.heap.size 33 3 vo (base ++ (newL was (ts.take j)).map (mkMv it fr)).length ((base ++ (newL was (ts.take j)).map (mkMv it fr)).flatMap mvCells)) ∧ Hid (wq.ownsRow wb.heap.size 9 1 v5 was.length (was.map fun t => .string (bstr t))) ∧ Hid (wq.ownsRow wb.heap.size 9 1 (.slice A9 ts.length c9) ts.length (ts.map fun t => .string (bstr t))) ∧ Hid (Below w3.heap.size w3 wq)) (fun _ vj _ => ts.length - (intOf vj).toNat)
        case atStart => exact ⟨0, Nat.zero_le _, rfl, by rw [List.take_zero, show (newL was []).map (mkMv it fr) = [] from rfl, List.append_nil]; exact HO9, HW9, HT9, HB9⟩
        case round =>
          clear HO9 HW9 HT9 HB9
          obtain ⟨j, hj, rfl, HOQ, HWQ, HTQ, HBQ⟩ := hrel
          by_cases hjl : j < ts.length
          · obtain ⟨ad6, c6, e6, _, q0, hz⟩ := names_at (l := ts) (names_own2 HTQ.out HTM.out) hjl
            cases e6
            have HNL := Lib.hid (newL_next was ts hjl)
            have hnl : (newL was (ts.take j)).length ≤ j := by
              unfold newL
              refine Nat.le_trans (List.length_filter_le _ _) ?_
              rw [List.length_take]
              exact Nat.min_le_left _ _
            generalize newL was (ts.take j) = nw at *
            generalize hx : ts[j] = x at *
            clear hx hz
            go_wp2_with fail
            refine (contains_any _ was x _ _ (names_of_own HWQ.out HPM.out)).mono ?_
            rintro e w12 ⟨rfl, hw⟩
            subst hw
            by_cases hin : x ∈ was
            · rw [decide_eq_true hin]
              have HNK : Hid (newL was (ts.take (j + 1)) = nw) := Lib.hid (by rw [HNL.out, if_pos hin, List.append_nil])
              clear hin HNL q0
              go_wp2_with fail
              go_roundw
              case rel => exact ⟨j + 1, by omega, by go_num, by rw [HNK.out]; exact HOQ, HWQ, HTQ, HBQ⟩
              case measure => simp [intOf]; omega
            · rw [decide_eq_false hin]
              have HNK : Hid (newL was (ts.take (j + 1)) = nw ++ [x]) := Lib.hid (by rw [HNL.out, if_neg hin])
              clear hin HNL q0
              have hbz : w3.heap.size ≤ w12.heap.size := HBQ.out.size
              have hlen : (base ++ nw.map (mkMv it fr)).length ≤ 150050 := by rw [List.length_append, List.length_map]; omega
              generalize hbn : (base ++ nw.map (mkMv it fr)) = bn at *
              have HBN := Lib.hid hbn
              clear hbn
              go_wp2_with (at_builtin; refine app_new (w := w12) rfl (.tmp 71) (.tmp 76) 29 rfl 33 (.agg #[.string ⟨#[]⟩, .string ⟨#[]⟩, .string ⟨#[]⟩]) 3 48 Tryd.underlying29 mv_info rfl (by decide) (m := 1) [.string (bstr it), .string (bstr fr), .string (bstr x)] HOQ.out hbz rfl rfl rfl (by decide) (by simp [Value.oneCell']) (by unfold maxLen; omega) (by omega) ?_; intro g4 c4 w4 HB4 HG4 HD4 HL4)
              have HO4 : Hid (w4.ownsRow w3.heap.size 33 3 (.slice (some ⟨g4, 0, none⟩) (bn.length + 1) c4) (base ++ (newL was (ts.take (j + 1))).map (mkMv it fr)).length ((base ++ (newL was (ts.take (j + 1))).map (mkMv it fr)).flatMap mvCells)) := Lib.hid (by
                rw [HNK.out, List.map_append, ← List.append_assoc, HBN.out, List.length_append, List.flatMap_append]
                simpa [mvCells, mkMv] using HB4.out)
              have HW4 := Lib.hid (own_keptT HWQ.out HOQ.out (by decide) HG4.out)
              have HT4 := Lib.hid (own_keptT HTQ.out HOQ.out (by decide) HG4.out)
              go_roundw
              case rel => exact ⟨j + 1, by omega, by go_num, HO4, HW4, HT4, HD4.out _ HBQ.out⟩
              case measure => simp [intOf]; omega
          · have HTE : Hid (ts.take j = ts) := Lib.hid (List.take_of_length_le (by omega))
            rw [HTE.out] at HOQ
            have HEND : Hid (base ++ (newL was ts).map (mkMv it fr) = mvAll bef aft (its.take (k + 1)) M) := Lib.hid (by rw [HNX.out, ← HFR.out, ← HTS.out])
            rw [HEND.out] at HOQ
            clear HTE HEND
            go_wp2_with fail
            go_roundw
            case rel => exact ⟨k + 1, by omega, by go_num, HOQ, HBQ⟩
            case measure => simp [intOf]; omega
    · have HKA : Hid (its.take k = its) := Lib.hid (List.take_of_length_le (by omega))
      rw [HKA.out] at HO
      have HPP : Hid (MvPost bef aft its (M : Int) w (.returned (.tuple #[u13, .int .i64 0])) wr) := Lib.hid (MvPost.good HOB.out HOA.out HNI.out HF.out HO.out (HB3.out.trans (HB.out.mono HB3.out.size)))
      go_wp2_with fail
      go_ret2
      exact HPP.out
end Go.Proofs.YtdeeiifcjbmmiaaDoor
