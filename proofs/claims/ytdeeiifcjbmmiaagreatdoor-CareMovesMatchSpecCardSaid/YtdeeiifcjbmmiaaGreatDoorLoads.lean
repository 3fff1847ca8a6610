/-
  Loads of package care.
-/
import Derived.Test.YtdeeiifcjbmmiaaGreatDoorPTop
namespace Go.Proofs.YtdeeiifcjbmmiaaGreatDoor
open Go.RowKit
set_option linter.unusedVariables false
set_option linter.unusedSimpArgs false

theorem keyP (s : List UInt8) (h : s.length ≤ maxLen) : keyOf Tryz.prog 9 (.string (bstr s)) = some (.string s) :=
  WideMaps.keyOf_string_mk Tryz.underlying9 (by rw [bstr_size]; exact h)
theorem own_keptP {w w' : World} {B n : Nat} {e : TypeId} {size : Nat} {v : Value} {xs : List Value} {row : Option Nat} (h : w.ownsRow B e size v n xs) (hg : w.grownBy w' row) (hne : v.ownBlock ≠ row) : w'.ownsRow B e size v n xs := by
  refine ⟨h.1, ?_⟩
  rcases h.2 with ⟨rfl, h2⟩ | ⟨g, cap, cur, rfl, h1, h2, h3⟩
  · exact .inl ⟨rfl, h2⟩
  · refine .inr ⟨g, cap, cur, rfl, h1, ?_, h3⟩
    rw [hg.block g (Array.getElem?_eq_some_iff.1 h2).1 hne]; exact h2
theorem names_own2 {w : World} {B : Nat} {v : Value} {l : List (List UInt8)} {n : Nat} (h : w.ownsRow B 9 1 v n (l.map fun t => .string (bstr t))) (hl : ∀ x ∈ l, x.length ≤ maxLen) : namesRp.ok w (· < w.heap.size) [v] l := names_of_own h hl
theorem ld_info : (Tryz.prog.info? 33).map (fun i => (i.zero, i.size, i.bytes)) = some (some (.agg #[.string ⟨#[]⟩, .int .i64 0, .int .i64 0]), 3, 32) := by kernel_rfl
theorem site_mkP {w : World} {S : Nat → Prop} {c : Site} (h : c.name.length ≤ maxLen ∧ (Lit.int .i64 c.weight).wf = true ∧ (Lit.int .i64 c.room).wf = true) : siteRp.ok w S (siteCells c) c := ⟨[_], [_, _], rfl, ⟨rfl, h.1⟩, [_], [_], rfl, ⟨rfl, h.2.1⟩, ⟨rfl, h.2.2⟩⟩
theorem LdPost.good {s : List Site} {its : List (List UInt8)} {M : Nat} {B n : Nat} {w w' : World} {v : Value} (hs : SOk s) (hr : ∀ x ∈ s, 0 ≤ x.room ∧ x.room ≤ 1000000) (hm : M ≤ 50) (hi : its.length ≤ 3000) (h : ldFault s its (M : Int) = 0) (hO : w'.ownsRow B 33 3 v n ((ldOut s (plAll s its M)).flatMap siteCells)) (hb : Below w.heap.size w w') : LdPost s its (M : Int) w (.returned (.tuple #[v, .int .i64 0])) w' :=
  ⟨_, by rw [h], by
    rw [ldL, if_pos h, Int.toNat_natCast]
    have hc := sok_clean hr (ks := plAll s its M) (by have := plAll_len s M hm its; omega) hs.nm
    exact Rp.of_ownN (R := siteRp) (by decide) (fun _ => rfl) hO (fun g hg => (hO.lt g hg).2) (fun y hy => site_mkP (hc y hy)), hb⟩
theorem ldOut_next (s : List Site) (ks : List (List UInt8)) {k : Nat} (h : k < s.length) : (ldOut (s.take (k + 1)) ks).flatMap siteCells = (ldOut (s.take k) ks).flatMap siteCells ++ siteCells (ldOf ks s[k]) := by
  unfold ldOut
  rw [List.take_succ_eq_append_getElem h, List.map_append, List.flatMap_append]
  simp
set_option maxRecDepth 100000 in
set_option maxHeartbeats 8000000 in
theorem loads_any (v0 : Value) (s : List Site) (v1 : Value) (its : List (List UInt8)) (many : Int) (w : World) (h0 : (Rp.sl siteRp).ok w (· < w.heap.size) [v0] s) (h1 : namesRp.ok w (· < w.heap.size) [v1] its) :
    Calls Tryz.prog 8 #[v0, v1, .int .i64 many] w (LdPost s its many w) := by
  obtain ⟨A, cc, rfl, hl, hc, _⟩ := Rp.sl_open h0
  obtain ⟨A1, c1, rfl, hl1, hc1, _⟩ := names_open h1
  unfold maxLen at hc hc1
  have H0 := Lib.hid h0
  have H1 := Lib.hid h1
  clear h0 h1
  go_enter Tryz.func8, Tryz.ntmps8
  go_wp2_with fail
  refine (checkSites_any _ s w H0.out).mono ?_
  rintro e w1 ⟨rfl, hb⟩
  have HB1 := Lib.hid hb
  clear hb
  by_cases ha : sitesFault s = 0
  case neg =>
    have HF : Hid (ldFault s its many = sitesFault s) := Lib.hid (ldF_1 ha)
    have HN := Lib.hid ha
    have hn : (sitesFault s != 0) = true := by simpa using ha
    clear ha
    generalize sitesFault s = ff at *
    go_wp2_with fail
    go_ret2
    exact LdPost.bad HF.out HN.out HB1.out
  have HOK := Lib.hid (sok_of ha)
  have hsl := HOK.out.few
  have HRM := Lib.hid (sites_room ha)
  have HF2 := Lib.hid (ldF_2 (its := its) (many := many) ha)
  rw [ha]
  clear ha
  go_wp2_with fail
  refine (checkItems_any _ its many _ (Rp.ext _ H1.out HB1.out)).mono ?_
  rintro e w2 ⟨rfl, hb⟩
  have HB2 := Lib.hid (below_tr2 HB1.out hb HB1.out.size)
  clear hb HB1
  by_cases ha : itemsFault its many = 0
  case neg =>
    have HF : Hid (ldFault s its many = itemsFault its many) := HF2
    have HN := Lib.hid ha
    have hn : (itemsFault its many != 0) = true := by simpa using ha
    clear ha
    generalize itemsFault its many = ff at *
    go_wp2_with fail
    go_ret2
    exact LdPost.bad HF.out HN.out HB2.out
  have HF : Hid (ldFault s its many = 0) := Lib.hid (HF2.out.trans ha)
  have hok := items_ok ha
  have HNI : Hid (∀ x ∈ its, x.length ≤ 40) := Lib.hid (fun x hx => nm_len40 (hok.2.2.1 x hx))
  obtain ⟨M, rfl⟩ : ∃ M : Nat, many = (M : Int) := ⟨many.toNat, by omega⟩
  rw [ha]
  clear ha HF2
  have hm1 : 1 ≤ M := by omega
  have hm2 : M ≤ 50 := by omega
  have hi3 : its.length ≤ 3000 := hok.1
  clear hok
  have HM0 := Lib.hid (VMap.made (P := Tryz.prog) (K := 9) (z := .int .i64 0) w2)
  have HBM := Lib.hid ((Below.refl w2.heap.size w2).alloc (Nat.le_refl _) (.map #[] 0))
  have hmm := @run_makeMap Tryz.prog
  go_wp2_with fail
  clear hmm
  obtain ⟨mb, hmb⟩ : ∃ mb, mb = w2.heap.size := ⟨_, rfl⟩
  have HMB := Lib.hid (show w2.heap.size ≤ mb by omega)
  rw [← hmb] at HM0 ⊢
  clear hmb
  go_loopw [32] (fun vi wr => ∃ (k n : Nat) (f : Lit → Option Value), k ≤ its.length ∧ vi = .int .i64 k ∧ n ≤ 50 * k ∧ Hid (VMap Tryz.prog 9 (.int .i64 0) wr mb n f) ∧ Hid (CntF (plAll s (its.take k) M) f) ∧ Hid (Below w2.heap.size w2 wr)) (fun vi _ => its.length - (intOf vi).toNat)
  case atStart => exact ⟨0, 0, _, Nat.zero_le _, rfl, Nat.zero_le _, HM0, by rw [List.take_zero]; exact Lib.hid cntF_nil, HBM⟩
  case round =>
    clear HM0 HBM
    obtain ⟨k, n, f, hk, rfl, hnk, HM, HT, HB⟩ := hrel
    by_cases hlt : k < its.length
    · obtain ⟨ad, c', e1, hadb, c0, hz⟩ := names_at (namesRp.below H1.out (HB2.out.trans (HB.out.mono HB2.out.size))) hlt
      cases e1
      have hil : its[k].length ≤ 40 := HNI.out _ (List.getElem_mem hlt)
      have HNX := Lib.hid (plAll_next s its M hlt)
      have hbl := plAll_len s M hm2 (its.take k)
      rw [List.length_take, Nat.min_eq_left hk] at hbl
      generalize plAll s (its.take k) M = ks at *
      generalize hx : its[k] = it at *
      clear hx hz
      go_wp2_with fail
      refine (places_any _ s it M wr (Rp.ext _ H0.out (HB2.out.trans (HB.out.mono HB2.out.size))) HOK.out.nm HOK.out.rise HOK.out.pos HOK.out.few hm1 hm2 (by omega)).mono ?_
      rintro e w5 ⟨v5, rfl, hO, hb5⟩
      have HB5 := Lib.hid (HB.out.trans (hb5.mono HB.out.size))
      have HM5 := Lib.hid (HM.out.below hb5 HM.out.lt)
      have HPM : Hid (∀ x ∈ plL s it M, x.length ≤ maxLen) := Lib.hid (fun x hx => by obtain ⟨y, hy, rfl⟩ := plL_mem HOK.out hx; have := HOK.out.nm y hy; unfold maxLen; omega)
      have hpl := plL_len s it M
      generalize plL s it M = ps at *
      have HO5 := Lib.hid hO
      obtain ⟨A5, c5, hv5, hlc5, hcm5, _⟩ := own_form hO
      subst hv5
      unfold maxLen at hcm5
      clear hO hb5 HB HM c0
      go_wp2_with fail
      obtain ⟨wb, hwb⟩ : ∃ wb, wb = wr := ⟨_, rfl⟩
      subst hwb
      go_loopw [41] (fun vj wq => ∃ (j n2 : Nat) (f2 : Lit → Option Value), j ≤ ps.length ∧ vj = .int .i64 j ∧ n2 ≤ 50 * k + j ∧ Hid (VMap Tryz.prog 9 (.int .i64 0) wq mb n2 f2) ∧ Hid (CntF (ks ++ ps.take j) f2) ∧ Hid (wq.ownsRow wb.heap.size 9 1 (.slice A5 ps.length c5) ps.length (ps.map fun t => .string (bstr t))) ∧ Hid (Below w2.heap.size w2 wq)) (fun vj _ => ps.length - (intOf vj).toNat)
      case atStart => exact ⟨0, n, f, Nat.zero_le _, rfl, by omega, HM5, by rw [List.take_zero, List.append_nil]; exact HT, HO5, HB5⟩
      case round =>
        clear HM5 HT HB5 HO5
        obtain ⟨j, n2, f2, hj, rfl, hn2, HM6, HT6, HO6, HB6⟩ := hrel
        by_cases hjl : j < ps.length
        · obtain ⟨ad6, c6, e6, _, c0, hz⟩ := names_at (l := ps) (names_own2 HO6.out HPM.out) hjl
          cases e6
          have hlk := HM6.out.look (T := 46) (Maps.string_keyed Tryz.underlying9) Tryz.underlying46 (fun w => by kernel_rfl) (keyP ps[j] hz) (by trivial)
          rw [cntF_get HT6.out] at hlk
          have HTN := Lib.hid (cntF_put HT6.out ps[j])
          have HTK : Hid (ks ++ ps.take (j + 1) = ks ++ ps.take j ++ [ps[j]]) := Lib.hid (by rw [List.take_succ_eq_append_getElem hjl, List.append_assoc])
          have hcl := List.count_le_length (a := ps[j]) (l := ks ++ ps.take j)
          rw [List.length_append, List.length_take, Nat.min_eq_left hj] at hcl
          have HKEY := Lib.hid (keyP ps[j] hz)
          generalize hx : ps[j] = x at *
          generalize (ks ++ ps.take j).count x = cn at *
          have hov : IntKind.i64.wrap ((cn : Int) + 1) = (cn : Int) + 1 := IntWalk.i64_in _ (by omega)
          clear hx hz HT6
          go_wp2_with (at_mapUpdate; refine vmap_update rfl _ _ _ 46 rfl HM6.out (Maps.string_keyed Tryz.underlying9) Tryz.underlying46 (by unfold maxLen; omega) (.string x) (.int .i64 ((cn : Int) + 1)) rfl rfl rfl HKEY.out (by trivial) ?_; intro w7 HM7 HG7)
          have HO7 := Lib.hid (own_keptP HO6.out HG7.out (Ne.symm (HM6.out.notRow HO6.out)))
          have HB7 := Lib.hid (HB6.out.grown HG7.out HB6.out.size (fun j e => by cases e; exact HMB.out))
          clear hlk c0 HM6 HO6 HB6
          go_roundw
          case rel => exact ⟨j + 1, n2 + 1, _, by omega, by go_num, by omega, HM7, by rw [HTK.out]; exact HTN, HO7, HB7⟩
          case measure => simp [intOf]; omega
        · have HTE : Hid (CntF (plAll s (its.take (k + 1)) M) f2) := Lib.hid (by
            have h := HT6.out
            rw [List.take_of_length_le (by omega)] at h
            rw [HNX.out]; exact h)
          clear HT6
          go_wp2_with fail
          go_roundw
          case rel => exact ⟨k + 1, n2, f2, by omega, by go_num, by omega, HM6, HTE, HB6⟩
          case measure => simp [intOf]; omega
    · have HKA : Hid (its.take k = its) := Lib.hid (List.take_of_length_le (by omega))
      rw [HKA.out] at HT
      have hkl := plAll_len s M hm2 its
      clear HKA hnk
      obtain ⟨ks, hks⟩ : ∃ ks, plAll s its M = ks := ⟨_, rfl⟩
      have HKS := Lib.hid hks
      rw [hks] at HT hkl
      clear hks
      go_wp2_with fail
      obtain ⟨wb, hwb⟩ : ∃ wb, wb = wr := ⟨_, rfl⟩
      subst hwb
      go_loopw [15, 53] (fun vo vk wz => ∃ k : Nat, k ≤ s.length ∧ vk = .int .i64 k ∧ Hid (wz.ownsRow wb.heap.size 33 3 vo k ((ldOut (s.take k) ks).flatMap siteCells)) ∧ Hid (Below wb.heap.size wb wz)) (fun _ vk _ => s.length - (intOf vk).toNat)
      case atStart => exact ⟨0, Nat.zero_le _, rfl, by rw [List.take_zero]; exact Lib.hid (World.ownsRow_nil _ _ _ _), Below.refl _ _⟩
      case round =>
        obtain ⟨k, hk, rfl, HO, HBZ⟩ := hrel
        by_cases hkl2 : k < s.length
        · obtain ⟨ad, c0, hv, _, q0, q1, q2, hz⟩ := site_at (Rp.ext _ H0.out ((HB2.out.trans (HB.out.mono HB2.out.size)).trans (HBZ.out.mono (Nat.le_trans HB2.out.size HB.out.size)))) hkl2
          cases hv
          have HNX := Lib.hid (ldOut_next s ks hkl2)
          have hrm := HRM.out _ (List.getElem_mem hkl2)
          have hcl := List.count_le_length (a := s[k].name) (l := ks)
          have hlo : ldOf ks s[k] = ⟨s[k].name, (ks.count s[k].name : Int), max 0 ((ks.count s[k].name : Int) - s[k].room)⟩ := rfl
          rw [hlo] at HNX
          have hlkw : ∀ wy : World, Below wr.heap.size wr wy → _ := fun wy hy => ((HM.out.below HBZ.out HM.out.lt).below hy (HM.out.below HBZ.out HM.out.lt).lt).look (T := 46) (Maps.string_keyed Tryz.underlying9) Tryz.underlying46 (fun w => by kernel_rfl) (keyP s[k].name hz) (by trivial)
          rw [cntF_get HT.out] at hlkw
          generalize hx : s[k] = x at *
          generalize ks.count x.name = cn at *
          have hov : IntKind.i64.wrap ((cn : Int) - x.room) = (cn : Int) - x.room := IntWalk.i64_in _ (by omega)
          have hal := (Below.refl wr.heap.size wr).alloc (Nat.le_refl _) (.cells #[.string (bstr x.name), .int .i64 x.weight, .int .i64 x.room] 48)
          have hlk := hlkw _ hal
          have HBA := Lib.hid (HBZ.out.alloc HBZ.out.size (.cells #[.string (bstr x.name), .int .i64 x.weight, .int .i64 x.room] 48))
          have HOA := Lib.hid (HO.out.alloc (.cells #[.string (bstr x.name), .int .i64 x.weight, .int .i64 x.room] 48))
          have HKX : Hid (Blk (wr.alloc (.cells #[.string (bstr x.name), .int .i64 x.weight, .int .i64 x.room] 48)) wr.heap.size 48 [.string (bstr x.name), .int .i64 x.weight, .int .i64 x.room]) := Lib.hid (Blk.new wr _ _)
          have hbz := HBA.out.size
          have r0 : _ = some (Value.string (bstr x.name)) := HKX.out.cell 0
          have r2 : _ = some (Value.int .i64 x.room) := HKX.out.cell 2
          clear hx hlkw hal hlo HO HBZ
          go_wp2_with (at_builtin; refine app_new (w := wr.alloc (.cells #[.string (bstr x.name), .int .i64 x.weight, .int .i64 x.room] 48)) rfl (.tmp 57) (.tmp 73) 28 rfl 33 (.agg #[.string ⟨#[]⟩, .int .i64 0, .int .i64 0]) 3 32 Tryz.underlying28 ld_info rfl (by decide) (m := 1) [.string (bstr x.name), .int .i64 (cn : Int), .int .i64 (max 0 ((cn : Int) - x.room))] HOA.out hbz rfl (by rw [World.size_alloc]; rfl) rfl (by decide) (by simp [Value.oneCell']) (by unfold maxLen; omega) (by omega) ?_; intro g4 c4 w4 HB4 HG4 HD4 HL4)
          have HO5 : Hid (w4.ownsRow wb.heap.size 33 3 (.slice (some ⟨g4, 0, none⟩) (k + 1) c4) (k + 1) ((ldOut (s.take (k + 1)) ks).flatMap siteCells)) := Lib.hid (by
            rw [HNX.out]; exact HB4.out)
          go_roundw
          case rel => exact ⟨k + 1, by omega, by go_num, HO5, HD4.out _ HBA.out⟩
          case measure => simp [intOf]; omega
        · have HPP : Hid (LdPost s its (M : Int) w (.returned (.tuple #[u15, .int .i64 0])) wr) := Lib.hid (by
            have h := HO.out
            rw [List.take_of_length_le (by omega), ← HKS.out] at h
            exact LdPost.good HOK.out HRM.out hm2 hi3 HF.out h ((HB2.out.trans (HB.out.mono HB2.out.size)).trans (HBZ.out.mono (Nat.le_trans HB2.out.size HB.out.size))))
          go_wp2_with fail
          go_ret2
          exact HPP.out
end Go.Proofs.YtdeeiifcjbmmiaaGreatDoor
