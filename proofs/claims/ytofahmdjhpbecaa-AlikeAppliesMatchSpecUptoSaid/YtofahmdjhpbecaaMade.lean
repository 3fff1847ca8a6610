/-
  'made' of package alike: what changes make of a text.
-/
import Derived.Test.YtofahmdjhpbecaaProg
import Derived.Test.YtofahmdjhpbecaaIdxFn
import Derived.Test.YtofahmdjhpbecaaJoin
import Derived.Test.YtofahmdjhpbecaaChg2
import Derived.Test.YtofahmdjhpbecaaEq
namespace Go.Proofs.Ytofahmdjhpbecaa
open Go.RowKit
set_option linter.unusedVariables false
set_option linter.unusedSimpArgs false

theorem keepL_bound {g : Int} : ∀ {l : List Ch}, (∀ c ∈ l, c.ls.length ≤ 400) → (keepL g l).length ≤ 400 * l.length
  | [], _ => by simp [keepL_nil]
  | c :: l, h => by
    have ih := keepL_bound (g := g) (l := l) fun d hd => h d (by simp [hd])
    have hc := h c (by simp)
    rw [keepL_cons, List.length_append, List.length_cons]
    split
    · simp; omega
    · omega
theorem keepL_mem {g : Int} {l : List Ch} {s : List UInt8} (h : s ∈ keepL g l) : ∃ c ∈ l, s ∈ c.ls := by
  obtain ⟨c, hc, hs⟩ := List.mem_flatMap.1 h
  split at hs
  · cases hs
  · exact ⟨c, hc, hs⟩
theorem many_small {l : List Ch} (h : (l.any fun c => decide ((400 : Int) < c.ls.length)) = false) : ∀ c ∈ l, c.ls.length ≤ 400 := by
  intro c hc
  have := List.any_eq_false.1 h c hc
  rw [decide_eq_true_eq] at this; omega
theorem tooMany_1 {l : List Ch} (h : 800 < l.length) : tooMany l = true := by rw [tooMany, decide_eq_true h]; rfl
theorem tooMany_2 {l : List Ch} (h : (l.any fun c => decide ((400 : Int) < c.ls.length)) = true) : tooMany l = true := by rw [tooMany, h, Bool.or_true]
theorem tooMany_3 {l : List Ch} (h : ¬ 800 < l.length) (h2 : (l.any fun c => decide ((400 : Int) < c.ls.length)) = false) : tooMany l = false := by rw [tooMany, h2, decide_eq_false h]; rfl
theorem strs_app (a b : List (List UInt8)) : strs (a ++ b) = strs a ++ strs b := by simp [strs]
theorem many_of {l : List Ch} (h : tooMany l = false) : ∀ c ∈ l, c.ls.length ≤ 400 := by
  rw [tooMany, Bool.or_eq_false_iff] at h
  exact many_small h.2
theorem all_take {α : Type} {p : α → Bool} {O : List α} {q : Nat} (h : (O.take q).all p = true) (hq : q < O.length) (hb : p O[q] = true) : (O.take (q + 1)).all p = true := by
  rw [List.take_succ_eq_append_getElem hq, List.all_append, h]; simpa using hb
/-- What is left of the lines ahead of a change. -/
theorem keep_clash {come : Int} {l : List Ch} {L : List (List UInt8)} {k j : Nat} (hk : k < l.length) (hj : keepL come (l.take k) = L.take j) (hjl : j ≤ L.length) (hc : l[k].kind ≠ come)
    (h : (L.drop j).length < l[k].ls.length ∨ (L.drop j).take l[k].ls.length ≠ l[k].ls) : keepL come l ≠ L := by
  intro e
  have e1 : keepL come l = keepL come (l.take k) ++ keepL come (l.drop k) := by rw [← keepL_app, List.take_append_drop]
  have e2 := keepL_drop come l k hk
  rw [if_neg hc] at e2
  rw [e2, hj, e] at e1
  have e3 : L.drop j = l[k].ls ++ keepL come (l.drop (k + 1)) := by
    have := congrArg (List.drop j) e1
    have hz : (L.take j).length = j := by rw [List.length_take]; omega
    rw [List.drop_append_of_le_length (by omega)] at this
    rw [this, List.drop_of_length_le (by omega), List.nil_append]
  rcases h with h | h
  · rw [e3, List.length_append] at h; omega
  · apply h; rw [e3, List.take_left']; rfl
theorem keep_more {come : Int} {l : List Ch} {L : List (List UInt8)} {k j : Nat} (hk : k < l.length) (hj : keepL come (l.take k) = L.take j) (hc : l[k].kind ≠ come)
    (h : (L.drop j).take l[k].ls.length = l[k].ls) : keepL come (l.take (k + 1)) = L.take (j + l[k].ls.length) := by
  rw [keepL_take come l k hk, if_neg hc, hj, List.take_add, h]
theorem keep_same {come : Int} {l : List Ch} {L : List (List UInt8)} {k j : Nat} (hk : k < l.length) (hj : keepL come (l.take k) = L.take j) (hc : l[k].kind = come) : keepL come (l.take (k + 1)) = L.take j := by
  rw [keepL_take come l k hk, if_pos hc, hj, List.append_nil]
theorem keep_rest {come : Int} {l : List Ch} {L : List (List UInt8)} {j : Nat} (hj : keepL come l = L.take j) (h : 0 < (L.drop j).length) : keepL come l ≠ L := by
  intro e
  rw [e] at hj
  have := congrArg List.length hj
  rw [List.length_take] at this
  rw [List.length_drop] at h; omega
theorem keep_all {come : Int} {l : List Ch} {L : List (List UInt8)} {j : Nat} (hj : keepL come l = L.take j) (h : (L.drop j).length = 0) : keepL come l = L := by
  rw [hj, List.take_of_length_le]
  rw [List.length_drop] at h; omega

set_option maxRecDepth 100000 in
set_option maxHeartbeats 4000000 in
theorem made_any (t : List UInt8) (v : Value) (l : List Ch) (come gone : Int) (w : World) (ht2 : t.length ≤ maxLen) (h : (Rp.sl chRp).ok w (· < w.heap.size) [v] l) (hm : (keepL gone l).flatten.length ≤ 140737488355328) :
    Calls Try.prog 85 #[.string (bstr t), v, .int .i64 come, .int .i64 gone] w (MadePost t l come gone w) := by
  obtain ⟨A, c, rfl, hl, hc, _⟩ := Rp.sl_open h
  have hr := lit_strs w [bstr t] (by simpa [bstr_size] using ht2) (by simp)
  have HR := Lib.hid hr
  have hal := (Below.refl w.heap.size w).alloc (Nat.le_refl _) (.cells #[.string (bstr t)] 9)
  have HAL := Lib.hid hal
  have H := Lib.hid (Rp.ext _ h hal)
  have HM := Lib.hid hm
  unfold maxLen at hc ht2
  clear hr hal h hm
  by_cases ht : 20000 < t.length
  · have HF := Lib.hid (textsFault_bad (l := [bstr t]) (k := 0) (by simp) (by simpa [bstr_size] using ht))
    have HP := Lib.hid (MadePost.bad (w := w) (l := l) (made_1 (come := come) (gone := gone) ht) (by decide) HAL.out)
    go_enter Try.func85, Try.ntmps85
    go_wp2_with fail
    refine (checkTexts_any _ _ _ _ HR.out).mono ?_
    rintro e w1 ⟨rfl, rfl⟩
    rw [HF.out]
    go_wp2_with fail
    go_ret2
    exact HP.out
  have ht1 : t.length ≤ 20000 := by omega
  have HF := Lib.hid (textsFault_good (l := [bstr t]) (by simp [bstr_size, ht1]))
  go_enter Try.func85, Try.ntmps85
  go_wp2_with fail
  refine (checkTexts_any _ _ _ _ HR.out).mono ?_
  rintro e w1 ⟨rfl, rfl⟩
  rw [HF.out]
  clear HR HF ht
  by_cases h8 : 800 < l.length
  · have HP := Lib.hid (MadePost.bad (w := w) (l := l) (made_2 (come := come) (gone := gone) ht1 (tooMany_1 h8)) (by decide) HAL.out)
    have h8' : (800 : Int) < (l.length : Int) := by omega
    clear h8
    go_wp2_with fail
    go_ret2
    exact HP.out
  have h8' : ¬ (800 : Int) < (l.length : Int) := by omega
  go_wp2_with fail
  refine (containsFn_any _ l _ H.out).mono ?_
  rintro e w2 ⟨rfl, hb2⟩
  have HB2 := Lib.hid (HAL.out.trans (hb2.mono HAL.out.size))
  have H2 := Lib.hid (Rp.ext _ H.out hb2)
  clear hb2 H HAL h8'
  by_cases hany : (l.any fun c => decide ((400 : Int) < c.ls.length)) = true
  · have HP := Lib.hid (MadePost.bad (w := w) (l := l) (made_2 (come := come) (gone := gone) ht1 (tooMany_2 hany)) (by decide) HB2.out)
    rw [hany]
    clear hany
    go_wp2_with fail
    go_ret2
    exact HP.out
  rw [Bool.eq_false_iff.2 hany]
  have HTM := Lib.hid (tooMany_3 h8 (Bool.eq_false_iff.2 hany))
  have HSM := Lib.hid (many_small (Bool.eq_false_iff.2 hany))
  have hl8 : l.length ≤ 800 := by omega
  clear hany h8
  go_wp2_with fail
  go_loopw [35] (fun i wr => ∃ k : Nat, k ≤ l.length ∧ i = .int .i64 k ∧ Hid (∀ c ∈ l.take k, chFault c = 0) ∧ Hid (Below w.heap.size w wr) ∧ Hid (Below w2.heap.size w2 wr)) (fun i _ => l.length - (intOf i).toNat)
  case atStart => exact ⟨0, by omega, rfl, (fun c hc => by simp at hc), HB2.out, Below.refl _ _⟩
  case round =>
    obtain ⟨k, hk, rfl, HS, HB, HBB⟩ := hrel
    by_cases hlt : k < l.length
    · obtain ⟨ad, us, rfl, _, hadb, hu, hcell⟩ := Rp.sl_at (Rp.ext _ H2.out HBB.out) hlt
      obtain ⟨vb, rfl, hvb, hw1⟩ := ch_open hu
      have c0 : wr.cell? (ad.add (k * 2)) = some (.int .i64 l[k].kind) := hcell 0 _ rfl
      have c1 := hcell 1 _ rfl
      rw [add_fld _ _ _ (by omega)] at c1
      change wr.cell? ⟨(ad.add (k * 2)).block, (ad.add (k * 2)).off + 1, none⟩ = some vb at c1
      obtain ⟨A3, c3, rfl, hl3, hc3, _⟩ := Rp.sl_open hvb
      rw [List.length_map] at hl3 c1 hvb
      unfold maxLen at hc3
      have hev : (Rp.sl Rp.str).ok (wr.alloc (.cells #[.int .i64 l[k].kind, .slice A3 l[k].ls.length c3] 109)) (· < (wr.alloc (.cells #[.int .i64 l[k].kind, .slice A3 l[k].ls.length c3] 109)).heap.size) [.slice A3 l[k].ls.length c3] (l[k].ls.map bstr) :=
        Rp.ext _ hvb ((Below.refl wr.heap.size wr).alloc (Nat.le_refl _) _)
      have HEV := Lib.hid hev
      have HHB := Lib.hid (HB.out.alloc HB.out.size (.cells #[.int .i64 l[k].kind, .slice A3 l[k].ls.length c3] 109))
      have HHBB := Lib.hid (HBB.out.alloc HBB.out.size (.cells #[.int .i64 l[k].kind, .slice A3 l[k].ls.length c3] 109))
      have HT := Lib.hid (fun hb => chsFault_take HS.out hlt hb)
      have HX := Lib.hid (fun hb => chsFault_at l k hlt HS.out hb)
      clear hcell hu hvb hw1 hadb hev
      generalize l[k] = ch at *
      go_wp2_with fail
      refine (checkChange_any ch A3 c3 _ HEV.out).mono ?_
      rintro e w5 ⟨rfl, hb5⟩
      have HHB5 := Lib.hid (HHB.out.trans (hb5.mono HHB.out.size))
      have HHBB5 := Lib.hid (HHBB.out.trans (hb5.mono HHBB.out.size))
      clear hb5 HEV HHB HHBB c0 c1
      by_cases hf : chFault ch = 0
      · have HT1 := Lib.hid (HT.out hf)
        rw [hf]
        clear hf HT HX
        go_wp2_with fail
        go_roundw
        case rel => exact ⟨k + 1, by omega, by go_num, HT1, HHB5, HHBB5⟩
        case measure => simp [intOf]; omega
      · have HP := Lib.hid (MadePost.bad (w := w) (l := l) (made_3 (come := come) (gone := gone) ht1 HTM.out (HX.out hf) hf) hf HHB5.out)
        have hb : (chFault ch != 0) = true := by simpa using hf
        clear hf HT HX
        go_wp2_with fail
        go_ret2
        exact HP.out
    · obtain rfl : k = l.length := by omega
      rw [List.take_length] at HS
      have HCF := Lib.hid (chsFault_good l HS.out)
      have H3 := Lib.hid (Rp.ext _ H2.out HBB.out)
      clear HBB H2 hlt hk HB2
      go_wp2_with fail
      refine (lines_any t _ ht1).mono ?_
      intro e w3 hp
      obtain ⟨vh, rfl, hvh, hb3⟩ := lines_read ht1 hp
      have HVH := Lib.hid hvh
      have HB3 := Lib.hid (HB.out.trans (hb3.mono HB.out.size))
      have H4 := Lib.hid (Rp.ext _ H3.out hb3)
      clear hp hvh hb3 H3 HB
      have HLL := Lib.hid (linesL_size t)
      generalize hLL : linesL t = L at *
      have HLE := Lib.hid hLL
      clear hLL
      go_wp2_with fail
      go_loopw [14, 15, 49] (fun vh vo i wr => ∃ k j : Nat, k ≤ l.length ∧ i = .int .i64 k ∧ j ≤ L.length ∧ Hid (keepL come (l.take k) = L.take j) ∧ Hid ((Rp.sl Rp.str).ok wr (· < w3.heap.size) [vh] ((L.drop j).map bstr)) ∧
        Hid (wr.ownsRow w3.heap.size 9 1 vo (keepL gone (l.take k)).length (strs (keepL gone (l.take k)))) ∧ Hid (Below w3.heap.size w3 wr)) (fun _ _ i _ => l.length - (intOf i).toNat)
      case atStart => exact ⟨0, 0, by omega, rfl, by omega, rfl, HVH.out, World.ownsRow_nil _ _ _ _, Below.refl _ _⟩
      case round =>
        obtain ⟨k, j, hk, rfl, hj, HK, HV, HO, HBW⟩ := hrel
        by_cases hlt : k < l.length
        · obtain ⟨ad, us, rfl, _, hadb, hu, hcell⟩ := Rp.sl_at (Rp.below _ H4.out HBW.out) hlt
          obtain ⟨vb, rfl, hvb, hw1⟩ := ch_open hu
          have c0 : wr.cell? (ad.add (k * 2)) = some (.int .i64 l[k].kind) := hcell 0 _ rfl
          have c1 := hcell 1 _ rfl
          rw [add_fld _ _ _ (by omega)] at c1
          change wr.cell? ⟨(ad.add (k * 2)).block, (ad.add (k * 2)).off + 1, none⟩ = some vb at c1
          obtain ⟨A3, c3, rfl, hl3, hc3, _⟩ := Rp.sl_open hvb
          rw [List.length_map] at hl3 c1 hvb
          unfold maxLen at hc3
          obtain ⟨A6, c6, rfl, hl6, hc6, _⟩ := Rp.sl_open HV.out
          unfold maxLen at hc6
          rw [List.length_map] at hl6 HV ⊢
          have hcf := HS.out _ (List.getElem_mem hlt)
          have hls0 := List.length_pos_iff.2 (chFault_ok hcf).2.2.1
          have hls4 := HSM.out _ (List.getElem_mem hlt)
          have hbd := keepL_bound (g := gone) (l := l.take k) (fun c hc => HSM.out c (List.mem_of_mem_take hc))
          rw [List.length_take] at hbd
          have HKG := Lib.hid (keepL_take gone l k hlt)
          have HCL := Lib.hid (fun (hc : l[k].kind ≠ come) h => keep_clash hlt HK.out hj hc h)
          have HMO := Lib.hid (fun (hc : l[k].kind ≠ come) h => keep_more hlt HK.out hc h)
          have HSA := Lib.hid (fun (hc : l[k].kind = come) => keep_same hlt HK.out hc)
          obtain ⟨n, hn9⟩ : ∃ n, (keepL gone (l.take k)).length = n := ⟨_, rfl⟩
          rw [hn9] at HO hbd
          have HN := Lib.hid hn9
          have hbd2 : n ≤ 320000 := by omega
          obtain ⟨RL, hRL⟩ : ∃ RL, L.drop j = RL := ⟨_, rfl⟩
          have hjl : RL.length + j = L.length := by rw [← hRL, List.length_drop]; omega
          rw [hRL] at HV HCL HMO hl6 ⊢
          have HRL := Lib.hid hRL
          have hc0 : c6 = RL.length → RL.length = c6 := fun e => e.symm
          clear hcell hu hw1 hadb hcf hn9 hbd hRL
          generalize l[k] = ch at *
          obtain ⟨kind, ls⟩ := ch
          simp only [] at c0 c1 hl3 hvb hls0 hls4 HKG HCL HMO HSA ⊢
          obtain ⟨A5, c5, rfl, hn5, hc5, hown5⟩ := own_form HO.out
          have hwsz := HBW.out.size
          have HEV := Lib.hid (Rp.below _ hvb ((Below.refl w3.heap.size wr).alloc hwsz (.cells #[.int .i64 kind, .slice A3 ls.length c3] 109)))
          have HV1 := Lib.hid (Rp.below _ HV.out ((Below.refl w3.heap.size wr).alloc hwsz (.cells #[.int .i64 kind, .slice A3 ls.length c3] 109)))
          have HO1 := Lib.hid (HO.out.alloc (.cells #[.int .i64 kind, .slice A3 ls.length c3] 109))
          have HB1 := Lib.hid (HBW.out.alloc hwsz (.cells #[.int .i64 kind, .slice A3 ls.length c3] 109))
          have HB9 := Lib.hid (HB3.out.trans (HB1.out.mono HB3.out.size))
          have hkb := Blk.new wr 109 [.int .i64 kind, .slice A3 ls.length c3]
          have k0 : _ = some (Value.int .i64 kind) := hkb.cell 0
          have k1 : _ = some (Value.slice A3 ls.length c3) := hkb.cell 1
          clear hkb hvb HV HO HBW hown5
          by_cases hg1 : kind = gone
          · have bg : (kind != gone) = false := by simp [hg1]
            have HG1 := Lib.hid hg1
            clear hg1
            by_cases hk1 : kind = come
            · have b1 : (kind != come) = false := by simp [hk1]
              have HKT := Lib.hid (HSA.out hk1)
              have HVT : Hid ((Rp.sl Rp.str).ok _ (· < w3.heap.size) [_] ((L.drop j).map bstr)) := Lib.hid (by rw [HRL.out]; exact HV1.out)
              have HOT := HO1
              have HBT := HB1
              have HEVT := HEV
              clear hk1 HSA HMO HCL
              go_wp2_with fail
              go_roundw
              case rel =>
                refine ⟨k + 1, j, by omega, by go_num, by omega, HKT, HVT.out, ?_, HBT.out⟩
                rw [HKG.out, if_pos HG1.out, List.append_nil, HN.out]
                exact HOT.out
              case measure => simp [intOf]; omega
            · have b1 : (kind != come) = true := by simpa using hk1
              have HK1 := Lib.hid hk1
              clear hk1
              by_cases hsh : RL.length < ls.length
              · have HNE := Lib.hid (HCL.out HK1.out (.inl hsh))
                have hsh' : (RL.length : Int) < (ls.length : Int) := by omega
                go_wp2_with fail
                clear c0 c1
                generalize wr.alloc (.cells #[.int .i64 kind, .slice A3 ls.length c3] 109) = wA at *
                go_quiet (fail)
                go_wp2_with fail
                go_ret2
                exact MadePost.bad (made_4 ht1 HTM.out HCF.out (by rw [HLE.out]; exact HNE.out)) (by decide) (below_drewN HB9.out _)
              · have hsh' : ¬ (RL.length : Int) < (ls.length : Int) := by omega
                have hsh2 : (ls.length : Int) ≤ (RL.length : Int) := by omega
                have hrl0 : 0 < RL.length := by omega
                obtain ⟨ad6, _, rfl, _⟩ := Rp.sl_at1 rfl HV1.out (k := 0) (by rw [List.length_map]; exact hrl0)
                have hcut := Rp.sl_cut1 rfl HV1.out (lo := 0) (m := ls.length) hls0 (by rw [List.length_map]; omega)
                rw [add_nil, Nat.sub_zero, List.drop_zero] at hcut
                have HCUT := Lib.hid hcut
                have hdrop := Rp.sl_drop1 rfl HV1.out (lo := ls.length) (by rw [List.length_map]; omega)
                rw [← List.map_drop] at hdrop
                have HDROP := Lib.hid hdrop
                clear hcut hdrop
                go_wp2_with fail
                clear c0 c1
                generalize wr.alloc (.cells #[.int .i64 kind, .slice A3 ls.length c3] 109) = wA at *
                have s2 : (0 : Int) ≤ (ls.length : Int) := by omega
                have s4 : (ls.length : Int) ≤ (c6 : Int) := by omega
                have s6 : ¬ c6 = 0 := by omega
                have s3 : ((ls.length : Int)).toNat = ls.length := by omega
                go_quiet ((go_at_call 35; go_must (exact Calls.quiet_of (eqStrs_any _ _ _ _ _ _ _ (Rp.drewN _ HCUT.out _) (Rp.drewN _ HEV.out _)))))
                by_cases heq : (RL.map bstr).take ls.length = ls.map bstr
                · rw [decide_eq_true heq]
                  have HMO1 := Lib.hid (HMO.out HK1.out ((List.map_inj_right (fun _ _ => bstr_inj)).1 (by rw [List.map_take]; exact heq)))
                  clear heq
                  have HKT := HMO1
                  have HOT := Lib.hid (own_drewN HO1.out nq)
                  have HBT := Lib.hid (below_drewN HB1.out nq)
                  have HEVT := Lib.hid (Rp.drewN _ HEV.out nq)
                  obtain ⟨A9, C9, hv9, key⟩ : ∃ A9 C9, (Rp.sl Rp.str).ok (wA.drewN nq) (· < w3.heap.size) [.slice A9 (RL.length - ls.length) C9] ((L.drop (j + ls.length)).map bstr) ∧ (c6 = ls.length ∧ A9 = some ad6 ∧ C9 = 0 ∨ c6 ≠ ls.length ∧ A9 = some (ad6.add ls.length) ∧ C9 = c6 - ls.length) := by
                    have h9 := Rp.drewN _ HDROP.out nq
                    rw [← HRL.out, List.drop_drop, HRL.out] at h9
                    by_cases hcn : c6 = ls.length
                    · rw [if_pos hcn] at h9; exact ⟨_, _, h9, .inl ⟨hcn, rfl, by omega⟩⟩
                    · rw [if_neg hcn] at h9; exact ⟨_, _, h9, .inr ⟨hcn, rfl, rfl⟩⟩
                  have HVT := Lib.hid hv9
                  clear hv9 HCL HMO HSA HCUT HDROP HV1 HEV HO1
                  have d0 : (wA.drewN nq).cell? ⟨wr.heap.size, 0, none⟩ = some (Value.int .i64 kind) := k0
                  have d1 : (wA.drewN nq).cell? ⟨wr.heap.size, 1, none⟩ = some (Value.slice A3 ls.length c3) := k1
                  clear k0 k1 HB1 HB9
                  generalize wA.drewN nq = wX at *
                  have hln : (RL.length : Int) - (ls.length : Int) = ((RL.length - ls.length : Nat) : Int) := by omega
                  rcases key with ⟨hcn, rfl, rfl⟩ | ⟨hcn, rfl, rfl⟩
                  all_goals
                    go_wp2_with fail
                    go_roundw
                    case rel =>
                      refine ⟨k + 1, j + ls.length, by omega, by go_num, by omega, HKT, HVT.out, ?_, HBT.out⟩
                      rw [HKG.out, if_pos HG1.out, List.append_nil, HN.out]
                      exact HOT.out
                    case measure => simp [intOf]; omega
                · rw [decide_eq_false heq]
                  have HNE := Lib.hid (HCL.out HK1.out (.inr (fun e => heq (by rw [← List.map_take, e]))))
                  clear heq
                  go_wp2_with fail
                  go_ret2
                  exact MadePost.bad (made_4 ht1 HTM.out HCF.out (by rw [HLE.out]; exact HNE.out)) (by decide) (below_drewN HB9.out _)
          · have bg : (kind != gone) = true := by simpa using hg1
            have HG1 := Lib.hid hg1
            clear hg1
            by_cases hk1 : kind = come
            · have b1 : (kind != come) = false := by simp [hk1]
              have HKT := Lib.hid (HSA.out hk1)
              have HVT : Hid ((Rp.sl Rp.str).ok _ (· < w3.heap.size) [_] ((L.drop j).map bstr)) := Lib.hid (by rw [HRL.out]; exact HV1.out)
              have HOT := HO1
              have HBT := HB1
              have HEVT := HEV
              clear hk1 HSA HMO HCL
              go_wp2_with (at_builtin; refine app_any rfl (R := Rp.str) rfl (.tmp 83) (.tmp 85) 53 rfl 9 (.string (bstr [])) 16 Try.underlying53 string_info rfl (by rfl) HOT.out HBT.out.size .string (by rfl) HEVT.out str_one (by rw [List.length_map]; unfold maxLen; omega) (by rw [List.length_map]; omega) ?_; intro A9 c9 w9 HO9 HG9 HB9' HL9; have HV9 := Lib.hid (Rp.grown _ HVT.out HG9.out HBT.out.size (fun g hg => (HOT.out.lt g hg).1)))
              go_roundw
              case rel =>
                refine ⟨k + 1, j, by omega, by go_num, by omega, HKT, HV9.out, ?_, HB9'.out _ HBT.out⟩
                rw [HKG.out, if_neg HG1.out, strs_app, List.length_append, HN.out]
                have := HO9.out
                rw [List.length_map, List.map_map] at this
                exact this
              case measure => simp [intOf]; omega
            · have b1 : (kind != come) = true := by simpa using hk1
              have HK1 := Lib.hid hk1
              clear hk1
              by_cases hsh : RL.length < ls.length
              · have HNE := Lib.hid (HCL.out HK1.out (.inl hsh))
                have hsh' : (RL.length : Int) < (ls.length : Int) := by omega
                go_wp2_with fail
                clear c0 c1
                generalize wr.alloc (.cells #[.int .i64 kind, .slice A3 ls.length c3] 109) = wA at *
                go_quiet (fail)
                go_wp2_with fail
                go_ret2
                exact MadePost.bad (made_4 ht1 HTM.out HCF.out (by rw [HLE.out]; exact HNE.out)) (by decide) (below_drewN HB9.out _)
              · have hsh' : ¬ (RL.length : Int) < (ls.length : Int) := by omega
                have hsh2 : (ls.length : Int) ≤ (RL.length : Int) := by omega
                have hrl0 : 0 < RL.length := by omega
                obtain ⟨ad6, _, rfl, _⟩ := Rp.sl_at1 rfl HV1.out (k := 0) (by rw [List.length_map]; exact hrl0)
                have hcut := Rp.sl_cut1 rfl HV1.out (lo := 0) (m := ls.length) hls0 (by rw [List.length_map]; omega)
                rw [add_nil, Nat.sub_zero, List.drop_zero] at hcut
                have HCUT := Lib.hid hcut
                have hdrop := Rp.sl_drop1 rfl HV1.out (lo := ls.length) (by rw [List.length_map]; omega)
                rw [← List.map_drop] at hdrop
                have HDROP := Lib.hid hdrop
                clear hcut hdrop
                go_wp2_with fail
                clear c0 c1
                generalize wr.alloc (.cells #[.int .i64 kind, .slice A3 ls.length c3] 109) = wA at *
                have s2 : (0 : Int) ≤ (ls.length : Int) := by omega
                have s4 : (ls.length : Int) ≤ (c6 : Int) := by omega
                have s6 : ¬ c6 = 0 := by omega
                have s3 : ((ls.length : Int)).toNat = ls.length := by omega
                go_quiet ((go_at_call 35; go_must (exact Calls.quiet_of (eqStrs_any _ _ _ _ _ _ _ (Rp.drewN _ HCUT.out _) (Rp.drewN _ HEV.out _)))))
                by_cases heq : (RL.map bstr).take ls.length = ls.map bstr
                · rw [decide_eq_true heq]
                  have HMO1 := Lib.hid (HMO.out HK1.out ((List.map_inj_right (fun _ _ => bstr_inj)).1 (by rw [List.map_take]; exact heq)))
                  clear heq
                  have HKT := HMO1
                  have HOT := Lib.hid (own_drewN HO1.out nq)
                  have HBT := Lib.hid (below_drewN HB1.out nq)
                  have HEVT := Lib.hid (Rp.drewN _ HEV.out nq)
                  obtain ⟨A9, C9, hv9, key⟩ : ∃ A9 C9, (Rp.sl Rp.str).ok (wA.drewN nq) (· < w3.heap.size) [.slice A9 (RL.length - ls.length) C9] ((L.drop (j + ls.length)).map bstr) ∧ (c6 = ls.length ∧ A9 = some ad6 ∧ C9 = 0 ∨ c6 ≠ ls.length ∧ A9 = some (ad6.add ls.length) ∧ C9 = c6 - ls.length) := by
                    have h9 := Rp.drewN _ HDROP.out nq
                    rw [← HRL.out, List.drop_drop, HRL.out] at h9
                    by_cases hcn : c6 = ls.length
                    · rw [if_pos hcn] at h9; exact ⟨_, _, h9, .inl ⟨hcn, rfl, by omega⟩⟩
                    · rw [if_neg hcn] at h9; exact ⟨_, _, h9, .inr ⟨hcn, rfl, rfl⟩⟩
                  have HVT := Lib.hid hv9
                  clear hv9 HCL HMO HSA HCUT HDROP HV1 HEV HO1
                  have d0 : (wA.drewN nq).cell? ⟨wr.heap.size, 0, none⟩ = some (Value.int .i64 kind) := k0
                  have d1 : (wA.drewN nq).cell? ⟨wr.heap.size, 1, none⟩ = some (Value.slice A3 ls.length c3) := k1
                  clear k0 k1 HB1 HB9
                  generalize wA.drewN nq = wX at *
                  have hln : (RL.length : Int) - (ls.length : Int) = ((RL.length - ls.length : Nat) : Int) := by omega
                  rcases key with ⟨hcn, rfl, rfl⟩ | ⟨hcn, rfl, rfl⟩
                  all_goals
                    go_wp2_with (at_builtin; refine app_any rfl (R := Rp.str) rfl (.tmp 83) (.tmp 85) 53 rfl 9 (.string (bstr [])) 16 Try.underlying53 string_info rfl (by rfl) HOT.out HBT.out.size .string (by rfl) HEVT.out str_one (by rw [List.length_map]; unfold maxLen; omega) (by rw [List.length_map]; omega) ?_; intro A9 c9 w9 HO9 HG9 HB9' HL9; have HV9 := Lib.hid (Rp.grown _ HVT.out HG9.out HBT.out.size (fun g hg => (HOT.out.lt g hg).1)))
                    go_roundw
                    case rel =>
                      refine ⟨k + 1, j + ls.length, by omega, by go_num, by omega, HKT, HV9.out, ?_, HB9'.out _ HBT.out⟩
                      rw [HKG.out, if_neg HG1.out, strs_app, List.length_append, HN.out]
                      have := HO9.out
                      rw [List.length_map, List.map_map] at this
                      exact this
                    case measure => simp [intOf]; omega
                · rw [decide_eq_false heq]
                  have HNE := Lib.hid (HCL.out HK1.out (.inr (fun e => heq (by rw [← List.map_take, e]))))
                  clear heq
                  go_wp2_with fail
                  go_ret2
                  exact MadePost.bad (made_4 ht1 HTM.out HCF.out (by rw [HLE.out]; exact HNE.out)) (by decide) (below_drewN HB9.out _)
        · obtain rfl : k = l.length := by omega
          rw [List.take_length] at HK HO
          obtain ⟨A6, c6, rfl, hl6, hc6, _⟩ := Rp.sl_open HV.out
          unfold maxLen at hc6
          rw [List.length_map] at hl6 HV ⊢
          have HB4 := Lib.hid (HB3.out.trans (HBW.out.mono HB3.out.size))
          have HBS := HBW.out.size
          by_cases hr0 : 0 < (L.drop j).length
          · have HNE := Lib.hid (keep_rest HK.out hr0)
            have HP := Lib.hid (MadePost.bad (w := w) (made_4 (gone := gone) ht1 HTM.out HCF.out (by rw [HLE.out]; exact HNE.out)) (by decide) HB4.out)
            generalize (L.drop j).length = q at *
            have hr0' : (0 : Int) < (q : Int) := by omega
            go_wp2_with fail
            go_ret2
            exact HP.out
          have HEQ : Hid (keepL come l = linesL t) := Lib.hid (by rw [HLE.out]; exact keep_all HK.out (by omega))
          have hq0 : (L.drop j).length = 0 := by omega
          generalize (L.drop j).length = q at *
          subst hq0
          clear HK HV HVH hl6 hr0 HLL H4 HSM
          generalize hO : keepL gone l = O at *
          have HOE := Lib.hid hO
          have hOn : O.length ≤ 320000 := by
            rw [← hO]
            have := keepL_bound (g := gone) (many_of HTM.out)
            omega
          have hsz : ∀ s ∈ O, s.length ≤ 140737488355328 := fun s hs => by
            have := (List.sublist_flatten_of_mem hs).length_le
            have := HM.out
            omega
          have HSZ := Lib.hid hsz
          have HOR : Hid ((Rp.sl Rp.str).ok wr (· < wr.heap.size) [_] (O.map bstr)) :=
            Lib.hid (Rp.str_own (n := O.length) (B := w3.heap.size) (e := 9) (by rw [List.map_map]; exact HO.out) (fun x hx => by obtain ⟨s, hs, rfl⟩ := List.mem_map.1 hx; have := hsz s hs; rw [bstr_size]; unfold maxLen; omega) (fun g hg => (HO.out.lt g hg).2))
          obtain ⟨A5, c5, rfl, hn5, hc5, _⟩ := own_form HO.out
          unfold maxLen at hc5
          clear hO hsz
          go_wp2_with fail
          go_loop [18] (fun i => ∃ q : Nat, q ≤ O.length ∧ i = .int .i64 q ∧ Hid ((O.take q).all lnEnd = true)) (fun i => O.length - (intOf i).toNat)
          case atStart => exact ⟨0, by omega, rfl, rfl⟩
          case round =>
            obtain ⟨q, hq, rfl, HT⟩ := hrel
            by_cases hlt : q + 1 < O.length
            · have hlt' : (q : Int) + 1 < (O.length : Int) := by omega
              obtain ⟨ad5, u, rfl, _, hu, hcell⟩ := Rp.sl_at1 rfl HOR.out (k := q) (by rw [List.length_map]; omega)
              obtain ⟨hu, _⟩ := hu
              injection hu with hu
              subst hu
              rw [List.getElem_map] at hcell
              have hlen := HSZ.out _ (List.getElem_mem (show q < O.length by omega))
              have HT1 := Lib.hid (fun hb : lnEnd (O[q]'(by omega)) = true => all_take (O := O) (q := q) HT.out (by omega) hb)
              have HE1 := Lib.hid (fun hb : lnEnd (O[q]'(by omega)) = false => ended_bad (l := O) (i := q) (by omega) hb)
              generalize O[q]'(by omega) = s at *
              go_wp2_with fail
              refine (hasEnd_any s _ hlen).mono ?_
              rintro e w1 ⟨rfl, rfl⟩
              by_cases hb : lnEnd s = true
              · have HT2 := Lib.hid (HT1.out hb)
                rw [hb]
                clear hb HT1 HE1
                go_wp2_with fail
                go_round
                case rel => exact ⟨q + 1, by omega, by go_num, HT2⟩
                case measure => simp [intOf]; omega
              · have hb' := Bool.eq_false_iff.2 hb
                have HP := Lib.hid (MadePost.bad (w := w) (made_5 (come := come) (gone := gone) ht1 HTM.out HCF.out HEQ.out (by rw [HOE.out]; exact HE1.out hb')) (by decide) HB4.out)
                rw [hb']
                clear hb hb' HT1 HE1
                go_wp2_with fail
                go_ret2
                exact HP.out
            · have hlt' : ¬ (q : Int) + 1 < (O.length : Int) := by omega
              have HEN := Lib.hid (ended_good (l := O) (i := q) (by omega) HT.out)
              go_wp2_with fail
              refine (join_any w3.heap.size _ O wr HO.out (fun s hs => by have := HSZ.out s hs; unfold maxLen; omega) (by omega) HM.out).mono ?_
              rintro e w7 ⟨rfl, hb7⟩
              have HB7 := Lib.hid (HB4.out.trans (hb7.mono HB4.out.size))
              clear hb7
              obtain ⟨F, hF⟩ : ∃ F, O.flatten = F := ⟨_, rfl⟩
              have HFE := Lib.hid hF
              rw [hF]
              have hfz : (bstr F).size = F.length := rfl
              clear hF
              by_cases hbig : 20000 < F.length
              · have HP := Lib.hid (MadePost.bad (w := w) (made_6 (come := come) (gone := gone) ht1 HTM.out HCF.out HEQ.out (by rw [HOE.out]; exact HEN.out) (by rw [HOE.out, HFE.out]; exact hbig)) (by decide) HB7.out)
                go_wp2_with fail
                go_ret2
                exact HP.out
              · have HP := Lib.hid (MadePost.good (w := w) (made_7 (come := come) (gone := gone) ht1 HTM.out HCF.out HEQ.out (by rw [HOE.out]; exact HEN.out) (by rw [HOE.out, HFE.out]; omega)) HB7.out)
                rw [HOE.out, HFE.out] at HP
                go_wp2_with fail
                go_ret2
                exact HP.out
end Go.Proofs.Ytofahmdjhpbecaa
