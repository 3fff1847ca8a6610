/-
  'applied' of the reference: what changes make of a text.
-/
import Derived.Test.YtofahmdjhpbecaaProg
import Derived.Test.YtofahmdjhpbecaaMade
import Derived.Test.YtofahmdjhpbecaaRefChk
namespace Go.Proofs.Ytofahmdjhpbecaa
open Go.RowKit
set_option linter.unusedVariables false
set_option linter.unusedSimpArgs false

/-- Two rows in blocks of their own each. -/
def Apt (v v' : Value) : Prop := ∀ g, v.ownBlock = some g → v'.ownBlock = some g → False
theorem Apt.symm {v v' : Value} (h : Apt v v') : Apt v' v := fun g a b => h g b a
theorem Apt.ne {v v' : Value} (h : Apt v v') : v'.ownBlock = none ∨ v'.ownBlock ≠ v.ownBlock := by
  cases hg : v'.ownBlock with
  | none => exact .inl rfl
  | some g => exact .inr fun e => h g e.symm hg
theorem Apt.grow {v v1 v' : Value} {w : World} {B : Nat} {e : TypeId} {size n : Nat} {xs : List Value} (h : Apt v v') (h1 : v1.ownBlock = v.ownBlock ∨ v1.ownBlock = some w.heap.size) (ho : w.ownsRow B e size v' n xs) : Apt v1 v' := by
  intro g a b
  rcases h1 with h1 | h1
  · exact h g (h1 ▸ a) b
  · rw [h1] at a
    injection a with a
    have := (ho.lt g b).2
    omega
theorem last_at {s : List UInt8} {m : Nat} (h : s.length = m + 1) : lnEnd s = decide (s[m]'(by omega) = 10) := by
  have e : s.getLast? = some (s[m]'(by omega)) := by
    rw [List.getLast?_eq_getElem?, show s.length - 1 = m by omega]
    exact List.getElem?_eq_getElem _
  unfold lnEnd
  rw [e]
  simp
theorem ended_step {O : List (List UInt8)} {q : Nat} (h : (O.dropLast.take q).all lnEnd = true) (hq : q < O.length) (hb : q + 1 < O.length → lnEnd O[q] = true) : (O.dropLast.take (q + 1)).all lnEnd = true := by
  by_cases hl : q + 1 < O.length
  · rw [List.take_succ_eq_append_getElem (by rw [List.length_dropLast]; omega), List.all_append, h, List.getElem_dropLast]
    simpa using hb hl
  · rw [List.take_of_length_le (by rw [List.length_dropLast]; omega)] at h ⊢
    exact h
theorem ended_all {O : List (List UInt8)} (h : (O.dropLast.take O.length).all lnEnd = true) : ended O = true := by
  rw [List.take_of_length_le (by rw [List.length_dropLast]; omega)] at h
  exact h
theorem flat_take1 (ls : List (List UInt8)) (k : Nat) (h : k < ls.length) : (ls.take (k + 1)).flatten = (ls.take k).flatten ++ ls[k] := by
  rw [List.take_succ_eq_append_getElem h, List.flatten_append]; simp
theorem flat_le1 (ls : List (List UInt8)) (k : Nat) : (ls.take k).flatten.length ≤ ls.flatten.length := by
  conv => rhs; rw [← List.take_append_drop k ls]
  rw [List.flatten_append, List.length_append]; omega
theorem lineOk_some {s : List UInt8} (h : lineOk s = true) : s ≠ [] := (of_decide_eq_true h).1
theorem ch_sizes {w : World} {S : Nat → Prop} {v : Value} {l : List Ch} (h : (Rp.sl chRp).ok w S [v] l) : ∀ c ∈ l, ∀ s ∈ c.ls, s.length ≤ maxLen := by
  intro c hc s hs
  obtain ⟨k, hk, rfl⟩ := List.getElem_of_mem hc
  obtain ⟨A, cp, rfl, _⟩ := Rp.sl_open h
  obtain ⟨_, us, _, _, _, hu, _⟩ := Rp.sl_at h hk
  obtain ⟨v2, rfl, hv, _⟩ := ch_open hu
  obtain ⟨j, hj, rfl⟩ := List.getElem_of_mem hs
  obtain ⟨A2, cp2, rfl, _⟩ := Rp.sl_open hv
  obtain ⟨_, u, _, _, hu2, _⟩ := Rp.sl_at1 rfl hv (k := j) (by rw [List.length_map]; exact hj)
  have := hu2.2
  rw [List.getElem_map, bstr_size] at this
  exact this
theorem bstr_add (a b : List UInt8) : bstr a ++ bstr b = bstr (a ++ b) := by
  apply ByteArray.ext
  simp [bstr, ByteArray.data_append]
theorem chk_ok {l : List Ch} (h : chkAll l = 0) : tooMany l = false ∧ chsFault l = 0 := by
  unfold chkAll at h
  split at h
  · omega
  · rename_i h1; exact ⟨Bool.eq_false_iff.2 h1, h⟩
theorem made_chk {t : List UInt8} {l : List Ch} {come gone : Int} (h1 : t.length ≤ 20000) (h : chkAll l ≠ 0) : madeFault t l come gone = chkAll l := by
  unfold chkAll at h ⊢
  by_cases h2 : tooMany l = true
  · rw [if_pos h2, made_2 h1 h2]
  · rw [if_neg h2] at h ⊢
    exact made_3 h1 (Bool.eq_false_iff.2 h2) rfl h

set_option maxRecDepth 100000 in
set_option maxHeartbeats 4000000 in
theorem refApplied0_any (t : List UInt8) (v : Value) (l : List Ch) (gone come : Int) (w : World) (ht2 : t.length ≤ maxLen) (h : (Rp.sl chRp).ok w (· < w.heap.size) [v] l) (hm : (keepL gone l).flatten.length ≤ 140737488355328) :
    Calls Try.prog 86 #[.string (bstr t), v, .int .i64 gone, .int .i64 come] w (MadePost t l come gone w) := by
  obtain ⟨A, c, rfl, hl, hc, _⟩ := Rp.sl_open h
  have hsz : (bstr t).size = t.length := rfl
  have H := Lib.hid h
  have HM := Lib.hid hm
  unfold maxLen at hc ht2
  clear h hm
  by_cases ht : 20000 < t.length
  · have HP := Lib.hid (MadePost.bad (w := w) (l := l) (made_1 (come := come) (gone := gone) ht) (by decide) (Below.refl _ _))
    go_enter Try.func86, Try.ntmps86
    go_wp2_with fail
    go_ret2
    exact HP.out
  have ht1 : t.length ≤ 20000 := by omega
  go_enter Try.func86, Try.ntmps86
  go_wp2_with fail
  refine (checkChanges_any _ l _ H.out).mono ?_
  rintro e w1 ⟨rfl, hb1⟩
  have HB1 := Lib.hid hb1
  have H1 := Lib.hid (Rp.ext _ H.out hb1)
  clear hb1 H ht
  by_cases hf : chkAll l = 0
  case neg =>
    have HP := Lib.hid (MadePost.bad (w := w) (l := l) (made_chk (come := come) (gone := gone) ht1 hf) hf HB1.out)
    have hb : (chkAll l != 0) = true := by simpa using hf
    clear hf
    go_wp2_with fail
    go_ret2
    exact HP.out
  obtain ⟨htm, hcf⟩ := chk_ok hf
  rw [hf]
  have HTM := Lib.hid htm
  have HCF := Lib.hid hcf
  have HSM := Lib.hid (many_of htm)
  have hl8 : l.length ≤ 800 := by
    have := htm
    rw [tooMany, Bool.or_eq_false_iff, decide_eq_false_iff_not] at this
    omega
  clear hf htm hcf
  go_wp2_with fail
  go_loopw [11, 12, 28] (fun va vb i wr => ∃ k : Nat, k ≤ l.length ∧ i = .int .i64 k ∧ Hid (wr.ownsRow w1.heap.size 9 1 va (keepL come (l.take k)).length (strs (keepL come (l.take k)))) ∧
    Hid (wr.ownsRow w1.heap.size 9 1 vb (keepL gone (l.take k)).length (strs (keepL gone (l.take k)))) ∧ Hid (Apt va vb) ∧ Hid (Below w1.heap.size w1 wr)) (fun _ _ i _ => l.length - (intOf i).toNat)
  case atStart => exact ⟨0, by omega, rfl, World.ownsRow_nil _ _ _ _, World.ownsRow_nil _ _ _ _, (fun g a _ => by cases a), Below.refl _ _⟩
  case round =>
    obtain ⟨k, hk, rfl, HOA, HOB, HAP, HBW⟩ := hrel
    by_cases hlt : k < l.length
    · obtain ⟨ad, us, rfl, _, hadb, hu, hcell⟩ := Rp.sl_at (Rp.below _ H1.out HBW.out) hlt
      obtain ⟨vb, rfl, hvb, hw1⟩ := ch_open hu
      have c0 : wr.cell? (ad.add (k * 2)) = some (.int .i64 l[k].kind) := hcell 0 _ rfl
      have c1 := hcell 1 _ rfl
      rw [add_fld _ _ _ (by omega)] at c1
      change wr.cell? ⟨(ad.add (k * 2)).block, (ad.add (k * 2)).off + 1, none⟩ = some vb at c1
      obtain ⟨A3, c3, rfl, hl3, hc3, _⟩ := Rp.sl_open hvb
      rw [List.length_map] at hl3 c1 hvb
      unfold maxLen at hc3
      have hls4 := HSM.out _ (List.getElem_mem hlt)
      have hbda := keepL_bound (g := come) (l := l.take k) (fun c hc => HSM.out c (List.mem_of_mem_take hc))
      have hbdb := keepL_bound (g := gone) (l := l.take k) (fun c hc => HSM.out c (List.mem_of_mem_take hc))
      rw [List.length_take] at hbda hbdb
      have HKA := Lib.hid (keepL_take come l k hlt)
      have HKB := Lib.hid (keepL_take gone l k hlt)
      obtain ⟨n, hn9⟩ : ∃ n, (keepL come (l.take k)).length = n := ⟨_, rfl⟩
      obtain ⟨m, hm9⟩ : ∃ m, (keepL gone (l.take k)).length = m := ⟨_, rfl⟩
      rw [hn9] at HOA hbda
      rw [hm9] at HOB hbdb
      have HN := Lib.hid hn9
      have HNM := Lib.hid hm9
      have hbn : n ≤ 320000 := by omega
      have hbm : m ≤ 320000 := by omega
      clear hcell hu hw1 hadb hn9 hm9 hbda hbdb
      generalize l[k] = ch at *
      obtain ⟨kind, ls⟩ := ch
      simp only [] at c0 c1 hl3 hvb hls4 HKA HKB ⊢
      obtain ⟨A5, c5, rfl, hn5, hc5, hown5⟩ := own_form HOA.out
      obtain ⟨A6, c6, rfl, hn6, hc6, hown6⟩ := own_form HOB.out
      have hwsz := HBW.out.size
      have HNG : Hid ((Value.slice A5 n c5).ownBlock ≠ some wr.heap.size) := Lib.hid fun e => by have := (hown5 _ e).2; omega
      have HEV := Lib.hid (Rp.below _ hvb ((Below.refl w1.heap.size wr).alloc hwsz (.cells #[.int .i64 kind, .slice A3 ls.length c3] 109)))
      have HOA1 := Lib.hid (HOA.out.alloc (.cells #[.int .i64 kind, .slice A3 ls.length c3] 109))
      have HOB1 := Lib.hid (HOB.out.alloc (.cells #[.int .i64 kind, .slice A3 ls.length c3] 109))
      have HB2 := Lib.hid (HBW.out.alloc hwsz (.cells #[.int .i64 kind, .slice A3 ls.length c3] 109))
      have hkb := Blk.new wr 109 [.int .i64 kind, .slice A3 ls.length c3]
      have k0 : _ = some (Value.int .i64 kind) := hkb.cell 0
      have k1 : _ = some (Value.slice A3 ls.length c3) := hkb.cell 1
      clear hkb hvb HOA HOB HBW hown5 hown6
      by_cases hc1 : kind = come
      · have bc : (kind != come) = false := by simp [hc1]
        have HC1 := Lib.hid hc1
        clear hc1
        by_cases hg1 : kind = gone
        · have bg : (kind != gone) = false := by simp [hg1]
          have HG1 := Lib.hid hg1
          clear hg1
          go_wp2_with fail
          go_roundw
          case rel => exact ⟨k + 1, by omega, by go_num, by rw [HKA.out, if_pos HC1.out, List.append_nil, HN.out]; exact HOA1.out, by rw [HKB.out, if_pos HG1.out, List.append_nil, HNM.out]; exact HOB1.out, by have h := HAP.out; (try simp only [List.length_map] at h); exact h, HB2.out⟩
          case measure => simp [intOf]; omega
        · have bg : (kind != gone) = true := by simpa using hg1
          have HG1 := Lib.hid hg1
          clear hg1
          go_wp2_with (at_builtin; refine app_any rfl (R := Rp.str) rfl (.tmp 44) (.tmp 46) 53 rfl 9 (.string (bstr [])) 16 Try.underlying53 string_info rfl (by rfl) HOB1.out HB2.out.size .string (by rfl) HEV.out str_one (by rw [List.length_map]; unfold maxLen; omega) (by rw [List.length_map]; omega) ?_; intro A7 c7 w7 HO7 HG7 HB7' HL7; have HOA7 := Lib.hid (World.ownsRow.kept HOA1.out HG7.out HAP.out.symm.ne); have HAP7 := Lib.hid ((HAP.out.symm.grow HL7.out HOA1.out).symm); have HB7 := Lib.hid (HB7'.out _ HB2.out))
          go_roundw
          case rel => exact ⟨k + 1, by omega, by go_num, by rw [HKA.out, if_pos HC1.out, List.append_nil, HN.out]; exact HOA7.out, by rw [HKB.out, if_neg HG1.out, strs_app, List.length_append, HNM.out]; have h := HO7.out; rw [List.length_map, List.map_map] at h; exact h, by have h := HAP7.out; (try simp only [List.length_map] at h); exact h, HB7.out⟩
          case measure => simp [intOf]; omega
      · have bc : (kind != come) = true := by simpa using hc1
        have HC1 := Lib.hid hc1
        clear hc1
        by_cases hg1 : kind = gone
        · have bg : (kind != gone) = false := by simp [hg1]
          have HG1 := Lib.hid hg1
          clear hg1
          go_wp2_with (at_builtin; refine app_any rfl (R := Rp.str) rfl (.tmp 36) (.tmp 38) 53 rfl 9 (.string (bstr [])) 16 Try.underlying53 string_info rfl (by rfl) HOA1.out HB2.out.size .string (by rfl) HEV.out str_one (by rw [List.length_map]; unfold maxLen; omega) (by rw [List.length_map]; omega) ?_; intro A9 c9 w9 HO9 HG9 HB9' HL9; have HEV9 := Lib.hid (Rp.grown _ HEV.out HG9.out HB2.out.size (fun g hg => (HOA1.out.lt g hg).1)); have HOB9 := Lib.hid (World.ownsRow.kept HOB1.out HG9.out HAP.out.ne); have HAP9 := Lib.hid (HAP.out.grow HL9.out HOB1.out); have HB9 := Lib.hid (HB9'.out _ HB2.out); have k0' := HG9.out.cell k0 (fun e => HNG.out e.symm); have k1' := HG9.out.cell k1 (fun e => HNG.out e.symm))
          go_roundw
          case rel => exact ⟨k + 1, by omega, by go_num, by rw [HKA.out, if_neg HC1.out, strs_app, List.length_append, HN.out]; have h := HO9.out; rw [List.length_map, List.map_map] at h; exact h, by rw [HKB.out, if_pos HG1.out, List.append_nil, HNM.out]; exact HOB9.out, by have h := HAP9.out; (try simp only [List.length_map] at h); exact h, HB9.out⟩
          case measure => simp [intOf]; omega
        · have bg : (kind != gone) = true := by simpa using hg1
          have HG1 := Lib.hid hg1
          clear hg1
          go_wp2_with (first | (at_builtin; refine app_any rfl (R := Rp.str) rfl (.tmp 36) (.tmp 38) 53 rfl 9 (.string (bstr [])) 16 Try.underlying53 string_info rfl (by rfl) HOA1.out HB2.out.size .string (by rfl) HEV.out str_one (by rw [List.length_map]; unfold maxLen; omega) (by rw [List.length_map]; omega) ?_; intro A9 c9 w9 HO9 HG9 HB9' HL9; have HEV9 := Lib.hid (Rp.grown _ HEV.out HG9.out HB2.out.size (fun g hg => (HOA1.out.lt g hg).1)); have HOB9 := Lib.hid (World.ownsRow.kept HOB1.out HG9.out HAP.out.ne); have HAP9 := Lib.hid (HAP.out.grow HL9.out HOB1.out); have HB9 := Lib.hid (HB9'.out _ HB2.out); have k0' := HG9.out.cell k0 (fun e => HNG.out e.symm); have k1' := HG9.out.cell k1 (fun e => HNG.out e.symm)) | (at_builtin; refine app_any rfl (R := Rp.str) rfl (.tmp 44) (.tmp 46) 53 rfl 9 (.string (bstr [])) 16 Try.underlying53 string_info rfl (by rfl) HOB9.out HB9.out.size .string (by rfl) HEV9.out str_one (by rw [List.length_map]; unfold maxLen; omega) (by rw [List.length_map]; omega) ?_; intro A7 c7 w7 HO7 HG7 HB7' HL7; have HOA7 := Lib.hid (World.ownsRow.kept HO9.out HG7.out HAP9.out.symm.ne); have HAP7 := Lib.hid ((HAP9.out.symm.grow HL7.out HO9.out).symm); have HB7 := Lib.hid (HB7'.out _ HB9.out)))
          go_roundw
          case rel => exact ⟨k + 1, by omega, by go_num, by rw [HKA.out, if_neg HC1.out, strs_app, List.length_append, HN.out]; have h := HOA7.out; rw [List.length_map, List.map_map] at h; exact h, by rw [HKB.out, if_neg HG1.out, strs_app, List.length_append, HNM.out]; have h := HO7.out; rw [List.length_map, List.map_map] at h; exact h, by have h := HAP7.out; (try simp only [List.length_map] at h); exact h, HB7.out⟩
          case measure => simp [intOf]; omega
    · obtain rfl : k = l.length := by omega
      rw [List.take_length] at HOA HOB
      have HB2 := Lib.hid (HB1.out.trans (HBW.out.mono HB1.out.size))
      have hbw := HBW.out.size
      have hwl : (keepL come l).length ≤ 320000 := by have := keepL_bound (g := come) HSM.out; omega
      have hol : (keepL gone l).length ≤ 320000 := by have := keepL_bound (g := gone) HSM.out; omega
      have hszw : ∀ s ∈ keepL come l, s.length ≤ maxLen := fun s hs => by
        obtain ⟨c, hc, hs⟩ := keepL_mem hs
        exact ch_sizes H1.out c hc s hs
      have hszo : ∀ s ∈ keepL gone l, s.length ≤ maxLen := fun s hs => by
        obtain ⟨c, hc, hs⟩ := keepL_mem hs
        exact ch_sizes H1.out c hc s hs
      have hlo : ∀ s ∈ keepL gone l, lineOk s = true := fun s hs => by
        obtain ⟨c, hc, hs⟩ := keepL_mem hs
        exact List.all_eq_true.1 (chFault_ok (chsFault_ok HCF.out c hc)).2.2.2 s hs
      have HLO := Lib.hid hlo
      have HOR : Hid ((Rp.sl Rp.str).ok wr (· < wr.heap.size) [_] ((keepL gone l).map bstr)) :=
        Lib.hid (Rp.str_own (n := (keepL gone l).length) (B := w1.heap.size) (e := 9) (by rw [List.map_map]; exact HOB.out) (fun x hx => by obtain ⟨s, hs, rfl⟩ := List.mem_map.1 hx; rw [bstr_size]; exact hszo s hs) (fun g hg => (HOB.out.lt g hg).2))
      have HWR : Hid ((Rp.sl Rp.str).ok wr (· < wr.heap.size) [_] ((keepL come l).map bstr)) :=
        Lib.hid (Rp.str_own (n := (keepL come l).length) (B := w1.heap.size) (e := 9) (by rw [List.map_map]; exact HOA.out) (fun x hx => by obtain ⟨s, hs, rfl⟩ := List.mem_map.1 hx; rw [bstr_size]; exact hszw s hs) (fun g hg => (HOA.out.lt g hg).2))
      have HSO := Lib.hid hszo
      clear hszw hlo hszo HOA HAP HSM
      obtain ⟨A6, c6, rfl, hn6, hc6, _⟩ := own_form HOB.out
      unfold maxLen at hc6
      clear HOB
      go_wp2_with fail
      refine (refLines_any t _ ht1).mono ?_
      intro e w2 hp
      obtain ⟨vh, rfl, hvh, hb3⟩ := lines_read ht1 hp
      have HVH := Lib.hid hvh
      have HWR2 := Lib.hid (Rp.ext _ HWR.out hb3)
      have HOR2 := Lib.hid (Rp.ext _ HOR.out hb3)
      have HB3 := Lib.hid (HB2.out.trans (hb3.mono HB2.out.size))
      clear hp hvh hb3 HWR HOR
      go_wp2_with fail
      refine (eqStrs_any _ _ _ _ _ _ _ HWR2.out HVH.out).mono ?_
      rintro e w3 ⟨rfl, nq, rfl⟩
      have HB4 := Lib.hid (below_drewN HB3.out nq)
      have HOR3 := Lib.hid (Rp.drewN _ HOR2.out nq)
      clear HOR2 HWR2 HVH HB3
      generalize hO : keepL gone l = O at *
      have HOE := Lib.hid hO
      clear hO
      by_cases heq : (keepL come l).map bstr = (linesL t).map bstr
      case neg =>
        have HP := Lib.hid (MadePost.bad (w := w) (made_4 (gone := gone) (come := come) ht1 HTM.out HCF.out (fun e => heq (by rw [e]))) (by decide) HB4.out)
        rw [decide_eq_false heq]
        clear heq
        go_wp2_with fail
        go_ret2
        exact HP.out
      rw [decide_eq_true heq]
      have HEQ := Lib.hid ((List.map_inj_right (fun _ _ => bstr_inj)).1 heq)
      clear heq
      generalize w2.drewN nq = w3 at *
      go_wp2_with fail
      go_loop [15, 56] (fun vs i => ∃ q : Nat, q ≤ O.length ∧ i = .int .i64 q ∧ vs = .string (bstr (O.take q).flatten) ∧ Hid ((O.dropLast.take q).all lnEnd = true)) (fun _ i => O.length - (intOf i).toNat)
      case atStart => exact ⟨0, by omega, rfl, rfl, rfl⟩
      case round =>
        obtain ⟨q, hq, rfl, rfl, HT⟩ := hrel
        by_cases hlt : q < O.length
        · obtain ⟨ad5, u, rfl, _, hu, hcell⟩ := Rp.sl_at1 rfl HOR3.out (k := q) (by rw [List.length_map]; omega)
          obtain ⟨hu, _⟩ := hu
          injection hu with hu
          subst hu
          rw [List.getElem_map] at hcell
          have hlen := HSO.out _ (List.getElem_mem hlt)
          unfold maxLen at hlen
          have hne := (lineOk_some (HLO.out _ (List.getElem_mem hlt)))
          have HFT := Lib.hid (flat_take1 O q hlt)
          have HT1 := Lib.hid (fun hb => ended_step HT.out hlt hb)
          have HE1 := Lib.hid (fun (hl : q + 1 < O.length) (hb : lnEnd O[q] = false) => ended_bad (l := O) (i := q) hl hb)
          have hfl := flat_le1 O (q + 1)
          rw [HFT.out, List.length_append] at hfl
          have hmm := HM.out
          generalize O[q] = s at *
          generalize hF : (O.take q).flatten = F at *
          have HFE := Lib.hid hF
          clear hF
          obtain ⟨m, hm⟩ : ∃ m, s.length = m + 1 := ⟨s.length - 1, by have := List.length_pos_iff.2 hne; omega⟩
          have HLA := Lib.hid (last_at hm)
          have hsm : (bstr s).size = m + 1 := hm
          have hFs : (bstr F).size = F.length := rfl
          have hg : (bstr s)[m]'(by rw [hsm]; omega) = s[m]'(by omega) := rfl
          have happ : bstr F ++ bstr s = bstr (F ++ s) := bstr_add F s
          have HAPP := Lib.hid happ
          clear hne happ
          by_cases hl1 : q + 1 < O.length
          · have hl1' : (q : Int) + 1 < (O.length : Int) := by omega
            by_cases h10 : s[m]'(by omega) = 10
            · have HT2 := Lib.hid (HT1.out (fun _ => by rw [HLA.out]; exact decide_eq_true h10))
              have hb : ((((bstr s)[m]'(by rw [hsm]; omega)).toNat : Int) != 10) = false := by rw [hg, h10]; rfl
              clear h10 hg HT1 HE1
              go_wp2_with fail
              go_round
              case rel => exact ⟨q + 1, by omega, by go_num, by rw [HFT.out, ← HAPP.out], HT2⟩
              case measure => simp [intOf]; omega
            · have HP := Lib.hid (MadePost.bad (w := w) (made_5 (come := come) (gone := gone) ht1 HTM.out HCF.out HEQ.out (by rw [HOE.out]; exact HE1.out hl1 (by rw [HLA.out]; exact decide_eq_false h10))) (by decide) HB4.out)
              have hb : ((((bstr s)[m]'(by rw [hsm]; omega)).toNat : Int) != 10) = true := by
                rw [hg, bne_iff_ne]
                intro e
                apply h10
                have : (s[m]'(by omega)).toNat = 10 := by omega
                exact UInt8.toNat_inj.1 this
              clear h10 hg HT1 HE1
              go_wp2_with fail
              go_ret2
              exact HP.out
          · have hl1' : ¬ (q : Int) + 1 < (O.length : Int) := by omega
            have HT2 := Lib.hid (HT1.out (fun h => absurd h hl1))
            clear hg HT1 HE1
            go_wp2_with fail
            go_round
            case rel => exact ⟨q + 1, by omega, by go_num, by rw [HFT.out, ← HAPP.out], HT2⟩
            case measure => simp [intOf]; omega
        · obtain rfl : q = O.length := by omega
          have HEN := Lib.hid (ended_all HT.out)
          rw [List.take_length]
          obtain ⟨F, hF⟩ : ∃ F, O.flatten = F := ⟨_, rfl⟩
          have HFE := Lib.hid hF
          rw [hF]
          have hfz : (bstr F).size = F.length := rfl
          clear hF
          by_cases hbig : 20000 < F.length
          · have HP := Lib.hid (MadePost.bad (w := w) (made_6 (come := come) (gone := gone) ht1 HTM.out HCF.out HEQ.out (by rw [HOE.out]; exact HEN.out) (by rw [HOE.out, HFE.out]; exact hbig)) (by decide) HB4.out)
            go_wp2_with fail
            go_ret2
            exact HP.out
          · have HP := Lib.hid (MadePost.good (w := w) (made_7 (come := come) (gone := gone) ht1 HTM.out HCF.out HEQ.out (by rw [HOE.out]; exact HEN.out) (by rw [HOE.out, HFE.out]; omega)) HB4.out)
            rw [HOE.out, HFE.out] at HP
            go_wp2_with fail
            go_ret2
            exact HP.out
end Go.Proofs.Ytofahmdjhpbecaa
