/-
  slices.Contains of numbers; who is under whom: 'below' of the reference of chapter 10.
-/
import Derived.Test.YtdljgjlkfihjdaaGreatDoorUnder
namespace Go.Proofs.YtdljgjlkfihjdaaGreatDoor
open Go.RowKit
set_option linter.unusedVariables false
set_option linter.unusedSimpArgs false

set_option maxRecDepth 100000 in
set_option maxHeartbeats 1000000 in
theorem indexInt_any (v : Value) (l : List Int) (x : Int) (w : World) (S : Nat → Prop) (h : (Rp.sl (Rp.int .i64)).ok w S [v] l) :
    Calls Tryz.prog 19 #[v, .int .i64 x] w fun e w' => ∃ i : Int, e = .returned (.int .i64 i) ∧ Hid (0 ≤ i ↔ x ∈ l) ∧ w' = w := by
  obtain ⟨A, c, rfl, hl, hc, _⟩ := Rp.sl_open h
  unfold maxLen at hc
  have H := Lib.hid h
  clear h
  go_enter Tryz.func19, Tryz.ntmps19
  go_wp2
  go_loop [8] (fun i => ∃ k : Nat, k ≤ l.length ∧ i = .int .i64 k ∧ Hid (∀ y ∈ l.take k, y ≠ x)) (fun i => l.length - (intOf i).toNat)
  case atStart => exact ⟨0, by omega, rfl, by simp [Hid]⟩
  case round =>
    obtain ⟨k, hk, rfl, HT⟩ := hrel
    by_cases hlt : k < l.length
    · have H' := H.out
      obtain ⟨ad, u, rfl, _, hu, hcell⟩ := Rp.sl_at1 rfl H' hlt
      obtain ⟨e1, _⟩ := hu
      injection e1 with e1
      subst e1
      by_cases hq : x = l[k]
      · have hb1 : (x == l[k]) = true := beq_iff_eq.2 hq
        have HM : Hid (x ∈ l) := Lib.hid (by rw [hq]; exact List.getElem_mem hlt)
        clear hq H'
        go_wp2
        go_ret
        exact ⟨k, rfl, Lib.hid ⟨fun _ => HM.out, fun _ => by omega⟩, rfl⟩
      · have hb1 : (x == l[k]) = false := beq_eq_false_iff_ne.2 hq
        have HT2 : Hid (∀ y ∈ l.take (k + 1), y ≠ x) := fun y hy => by
          rw [List.take_succ_eq_append_getElem hlt, List.mem_append, List.mem_singleton] at hy
          rcases hy with hy | rfl
          · exact HT.out y hy
          · exact Ne.symm hq
        clear hq H'
        go_wp2
        go_round
        case rel => exact ⟨k + 1, by omega, by go_num, HT2⟩
        case measure => simp [intOf]; omega
    · have HM : Hid (x ∉ l) := Lib.hid (fun hx => HT.out x (by rw [List.take_of_length_le (by omega)]; exact hx) rfl)
      go_wp2
      go_ret
      exact ⟨-1, rfl, Lib.hid ⟨fun h => absurd h (by decide), fun h => absurd h HM.out⟩, rfl⟩
set_option maxRecDepth 100000 in
set_option maxHeartbeats 1000000 in
theorem containsInt_any (v : Value) (l : List Int) (x : Int) (w : World) (S : Nat → Prop) (h : (Rp.sl (Rp.int .i64)).ok w S [v] l) :
    Calls Tryz.prog 9 #[v, .int .i64 x] w fun e w' => e = .returned (.bool (decide (x ∈ l))) ∧ w' = w := by
  go_enter Tryz.func9, Tryz.ntmps9
  go_wp2_with fail
  refine (indexInt_any v l x w S h).mono ?_
  rintro e w1 ⟨i, rfl, HI, rfl⟩
  by_cases hi : 0 ≤ i
  · have HD : Hid (decide (x ∈ l) = true) := Lib.hid (decide_eq_true (HI.out.1 hi))
    go_wp2
    go_ret
    exact ⟨by rw [HD.out]; rfl, rfl⟩
  · have HD : Hid (decide (x ∈ l) = false) := Lib.hid (decide_eq_false (fun e => hi (HI.out.2 e)))
    have HDI : Hid (decide (0 ≤ i) = false) := Lib.hid (decide_eq_false hi)
    go_wp2
    go_ret
    exact ⟨by rw [HD.out]; show Ending.returned (.bool (decide (0 ≤ i))) = _; rw [HDI.out], rfl⟩
def ivals (xs : List Nat) : List Value := (ints xs).map (.int .i64)
theorem ivals_app (xs : List Nat) (k : Nat) : ivals (xs ++ [k]) = ivals xs ++ [.int .i64 (k : Int)] := by unfold ivals; rw [ints_app, List.map_append]; rfl
theorem mem_ints {x : Nat} {xs : List Nat} : (x : Int) ∈ ints xs ↔ x ∈ xs := by
  unfold ints
  rw [List.mem_map]
  constructor
  · rintro ⟨y, hy, e⟩; have : y = x := by omega
    subst this; exact hy
  · exact fun h => ⟨x, h, rfl⟩
/-- What the reference's search keeps: the numbers ys that were found are those that cur marks. -/
structure BeSt (l : List Team) (fr B : Nat) (w0 : World) (cur : List Bool) (ys todo : List Nat) (vo vq : Value) (w : World) : Prop where
  own : w.ownsRow B 3 1 vo ys.length (ivals ys)
  mem : ∀ x, x ∈ ys ↔ cur.getD x false = true
  cnt : ys.length + cur.count false = l.length
  que : ∃ g1, Que w 3 B g1 vq (ints todo) ∧ (∀ go, vo.ownBlock = some go → go ≠ g1) ∧ g1 < w.heap.size
  meas : 2 * cur.count false + todo.length ≤ 2 * l.length + 1
  bel : Below B w0 w
section
variable {l : List Team} {fr B : Nat} {w0 : World} {cur : List Bool} {ys todo : List Nat} {vo vq : Value} {w w' : World}
theorem BeSt.below (h : BeSt l fr B w0 cur ys todo vo vq w) (hb : Below w.heap.size w w') (hB : B ≤ w.heap.size) : BeSt l fr B w0 cur ys todo vo vq w' := by
  obtain ⟨g1, hq, hne, hlt⟩ := h.que
  exact ⟨own_below h.own hb, h.mem, h.cnt, ⟨g1, hq.same (hb.block g1 hlt), hne, by have := hb.size; omega⟩, h.meas, h.bel.trans (hb.mono hB)⟩
theorem BeSt.qlen (h : BeSt l fr B w0 cur ys todo vo vq w) : ∃ ao cq, vq = .slice ao todo.length cq := by
  obtain ⟨gq, hq, _⟩ := h.que
  obtain ⟨ao, cq, h⟩ := hq.len
  rw [ints_len] at h
  exact ⟨ao, cq, h⟩
theorem BeSt.olen (h : BeSt l fr B w0 cur ys todo vo vq w) : ∃ ao c, vo = .slice ao ys.length c ∧ ys.length ≤ c ∧ c ≤ maxLen := by
  obtain ⟨A, c, e, h1, h2, _⟩ := own_form h.own
  exact ⟨A, c, e, h1, h2⟩
theorem BeSt.read (h : BeSt l fr B w0 cur ys todo vo vq w) (hn : l.length ≤ 100) (hc : cur.length = l.length) : (Rp.sl (Rp.int .i64)).ok w (· < w.heap.size) [vo] (ints ys) :=
  Rp.int_own h.own (fun x hx => by
    unfold ints at hx
    obtain ⟨y, hy, rfl⟩ := List.mem_map.1 hx
    have h1 := (h.mem y).1 hy
    have h2 : y < cur.length := by
      rcases Nat.lt_or_ge y cur.length with h | h
      · exact h
      · rw [List.getD_eq_getElem?_getD, List.getElem?_eq_none h] at h1; cases h1
    simp [Lit.wf, IntKind.min, IntKind.max, IntKind.signed, IntKind.bits]
    omega) (fun g hg => (h.own.lt g hg).2)
end
def BelowPost (l : List Team) (fr : Nat) (w : World) (e : Ending) (w' : World) : Prop :=
  ∃ (v : Value) (ys : List Nat), e = .returned v ∧ w'.ownsRow w.heap.size 3 1 v ys.length (ivals ys) ∧ ys.length ≤ l.length ∧ (∀ j, j ∈ ys ↔ Reach l fr j) ∧ Below w.heap.size w w'
set_option maxRecDepth 100000 in
set_option maxHeartbeats 4000000 in
theorem below_any (v : Value) (l : List Team) (fr : Nat) (w : World) (h0 : (Rp.sl teamRp).ok w (· < w.heap.size) [v] l) (hg : TGood l) (hf : fr < l.length) :
    Calls Tryz.prog 57 #[v, .int .i64 fr] w (BelowPost l fr w) := by
  obtain ⟨A, c, rfl, hl, hc, _⟩ := Rp.sl_open h0
  unfold maxLen at hc
  have hlen := hg.len
  have H0 := Lib.hid h0
  have HG := Lib.hid hg
  have HS0 : Hid (BeSt l fr w.heap.size w (List.replicate l.length false) [] [fr] (.slice none 0 0) (.slice (some ⟨w.heap.size, 0, none⟩) 1 1) (w.alloc (.cells #[.int .i64 fr] 3))) := Lib.hid (by
    have hq := Que.new w 3 fr
    refine ⟨World.ownsRow_nil _ _ _ _, fun x => ⟨fun h => absurd h (by simp), fun h => absurd ((getD_rep _ _).symm.trans h) (by decide)⟩, ?_, ⟨_, hq, (fun go h => by cases h), by simp⟩, ?_, (Below.refl w.heap.size w).alloc (Nat.le_refl _) _⟩
    · rw [List.count_replicate_self]; simp
    · rw [List.count_replicate_self]; simp)
  have HD0 := Lib.hid (dfs_start hf)
  clear h0 hg
  go_enter Tryz.func57, Tryz.ntmps57
  go_wp2_with fail
  generalize w.alloc (.cells #[.int .i64 fr] 3) = wS at *
  generalize hG0 : w.heap.size = G at *
  have HGG := Lib.hid hG0
  clear hG0
  go_loopw [5, 6] (fun vo vt wr => ∃ (cur : List Bool) (ys todo : List Nat), Hid (BeSt l fr G w cur ys todo vo vt wr) ∧ Hid (Dfs l fr cur todo)) (fun vo vt wr => 2 * (l.length - lenS vo) + lenS vt)
  case atStart => exact ⟨_, _, _, HS0, HD0⟩
  case round =>
    clear HS0 HD0
    obtain ⟨cur, ys, todo, HU, HD⟩ := hrel
    obtain ⟨ao, co, hvo, hco1, hco2⟩ := HU.out.olen
    subst hvo
    cases todo with
    | nil =>
      obtain ⟨aq, cq, hvq⟩ := HU.out.qlen
      subst hvq
      have HP : Hid (BelowPost l fr w (.returned (.slice ao ys.length co)) wr) := Lib.hid ⟨_, ys, rfl, by rw [HGG.out]; exact HU.out.own, by have := HU.out.cnt; omega, fun j => (HU.out.mem j).trans (dfs_over hf HD.out j), by rw [HGG.out]; exact HU.out.bel⟩
      rw [show ([] : List Nat).length = 0 from rfl]
      go_wp2_with fail
      go_ret
      exact HP.out
    | cons k ini =>
      obtain ⟨g1, hq, hne, hltq⟩ := HU.out.que
      obtain ⟨off, cap, hvq, hcap1, hcap2, hck, hq2⟩ := Que.head (x := (k : Int)) (xs := ints ini) hq
      subst hvq
      rw [ints_len] at *
      have hmeas := HU.out.meas
      rw [List.length_cons] at hmeas
      have HDI := Lib.hid (dfs_pop (k := k) (todo := ini) HD.out (fun x => by rw [List.mem_cons]))
      have hkl := HDI.out.klt
      have hk2 : wr.cell? (⟨g1, off, none⟩ : Addr) = some (.int .i64 (k : Int)) := hck
      have had2 : (⟨g1, off + 1, none⟩ : Addr) = (⟨g1, off, none⟩ : Addr).add 1 := (addr_add g1 off 1).symm
      rw [had2] at hq2
      obtain ⟨ad1, had1⟩ : ∃ ad1 : Addr, ad1 = ⟨g1, off, none⟩ := ⟨_, rfl⟩
      rw [← had1] at hk2 hq2 ⊢
      have HUI : Hid (BeSt l fr G w cur ys ini (.slice ao ys.length co) (.slice (if cap = 1 then some ad1 else some (ad1.add 1)) ini.length (cap - 1)) wr) := Lib.hid ⟨HU.out.own, HU.out.mem, HU.out.cnt, ⟨g1, hq2, hne, hltq⟩, by omega, HU.out.bel⟩
      have HBW : Hid (Below w.heap.size w wr) := Lib.hid (by rw [HGG.out]; exact HU.out.bel)
      obtain ⟨ad0, cc, Ap, cp, At, ct, e1, hadb, c0, c1, c2, hz, hpp, hpt⟩ := team_at H0.out hkl
      cases e1
      have hadb2 : (ad0.add (k * 3)).block < w.heap.size := by rw [add_block, HGG.out]; exact hadb
      have d2 : wr.cell? ⟨(ad0.add (k * 3)).block, (ad0.add (k * 3)).off + 2, none⟩ = some (.slice At l[k].teams.length ct) := (HBW.out.cell (p := ⟨(ad0.add (k * 3)).block, (ad0.add (k * 3)).off + 2, none⟩) hadb2).trans c2
      have HT := Lib.hid hpt
      have HTE : Hid ((l.getD k default).teams = l[k].teams) := Lib.hid (by rw [getD_at _ _ hkl])
      have htl := (HG.out.few k hkl).2
      have hmc : (ini.length : Int) + 1 ≤ (cap : Int) := by omega
      have hcne : ¬ cap = 0 := by omega
      have hk0 : (0 : Int) ≤ (k : Int) := by omega
      have hklI : (k : Int) < (l.length : Int) := by omega
      obtain ⟨M, hM⟩ : ∃ M, M = 2 * cur.count false + ini.length := ⟨_, rfl⟩
      have HMM := Lib.hid hM
      have hMle : M ≤ 2 * l.length := by omega
      have HMD : Hid (2 * (l.length - ys.length) + (ini.length + 1) = M + 1) := Lib.hid (by have := HU.out.cnt; rw [HMM.out]; omega)
      clear hM hmeas hq hq2 hck hpp hpt c0 c1 c2 hadb had1 had2 hcap1 hcap2 hne hltq
      generalize hts : l[k].teams = ts at *
      clear hts
      obtain ⟨wo, rfl⟩ : ∃ wo : World, wo = wr := ⟨_, rfl⟩
      have HUV : Hid (∀ av, (cap = 1 → av = some ad1) → (cap ≠ 1 → av = some (ad1.add 1)) → BeSt l fr G w cur ys ini (.slice ao ys.length co) (.slice av ini.length (cap - 1)) wo) := Lib.hid (fun av a1 a2 => by
        by_cases hc : cap = 1
        · have := HUI.out; rw [if_pos hc] at this; rw [a1 hc]; exact this
        · have := HUI.out; rw [if_neg hc] at this; rw [a2 hc]; exact this)
      have HC1 : Hid (cap ≠ 1) ∨ cap = 1 := (Classical.em (cap = 1)).elim Or.inr (fun h => Or.inl (Lib.hid h))
      clear HUI
      rcases HC1 with HC1 | rfl
      case' inl => have hc1 : ¬ cap = 1 := HC1.out
      all_goals
        go_wp2_with fail
        go_loopw [5, 6, 27] (fun vo vt vi wx => ∃ (cu : List Bool) (yy td : List Nat) (m : Nat), vi = .int .i64 m ∧ m ≤ ts.length ∧ 2 * cu.count false + td.length ≤ M ∧ Hid (BeSt l fr G w cu yy td vo vt wx) ∧ Hid (DfsIn l fr cu td k m)) (fun _ _ vi _ => ts.length - (intOf vi).toNat)
        case atStart => first | exact ⟨cur, ys, ini, 0, rfl, by omega, by have := HMM.out; omega, Lib.hid (HUV.out _ (fun _ => rfl) (fun h => absurd rfl h)), HDI⟩ | exact ⟨cur, ys, ini, 0, rfl, by omega, by have := HMM.out; omega, Lib.hid (HUV.out _ (fun h => absurd h HC1.out) (fun _ => rfl)), HDI⟩
        case round =>
          clear HUV HDI HU HD HBW hk2 d2
          obtain ⟨cu, yy, td, m, rfl, hm, hmm, HX, HI⟩ := hrel
          have HXB : Hid (Below w.heap.size w wr) := Lib.hid (by rw [HGG.out]; exact HX.out.bel)
          have hGx : G ≤ wr.heap.size := by have := HX.out.bel.size; have := HGG.out; omega
          obtain ⟨aq, cq, hvq⟩ := HX.out.qlen
          obtain ⟨ao2, co2, hvo, ho1, ho2⟩ := HX.out.olen
          subst hvq hvo
          by_cases hlt : m < ts.length
          · obtain ⟨at_, c', e1, hatb, p0, hzs⟩ := names_at (namesRp.below HT.out (by rw [← HGG.out]; exact HXB.out)) hlt
            injection e1 with e1 _ e3
            subst e1 e3
            have HK1 : Hid (∀ s ∈ ts, 0 ≤ teamIdx l s) := Lib.hid (fun s hs => HG.out.known k hkl s (by rw [← getD_at l default hkl, HTE.out]; exact hs))
            obtain ⟨j, hj⟩ : ∃ j : Nat, teamIdx l ts[m] = (j : Int) := ⟨(teamIdx l ts[m]).toNat, (Int.toNat_of_nonneg (HK1.out _ (List.getElem_mem hlt))).symm⟩
            have hjl : j < l.length := by have := (teamIdx_lt l ts[m]).2; omega
            have HJ : Hid (teamIdx l ((l.getD k default).teams[m]'(by rw [HTE.out]; exact hlt)) = (j : Int)) := Lib.hid (by
              have e : (l.getD k default).teams[m]'(by rw [HTE.out]; exact hlt) = ts[m] := by congr 1
              rw [e]; exact hj)
            have HCA := Lib.hid (teamOf_any _ l ts[m] wr (Rp.ext (Rp.sl teamRp) (show (Rp.sl teamRp).ok w (· < w.heap.size) [.slice (some ad0) l.length c] l by rw [HGG.out]; exact H0.out) (by rw [HGG.out]; exact HX.out.bel)))
            rw [hj] at HCA
            generalize ts[m] = s at *
            go_wp2_with fail
            refine HCA.out.mono ?_
            rintro e w5 ⟨rfl, hb5⟩
            have HX5 := Lib.hid (HX.out.below hb5 hGx)
            have hG5 : G ≤ w5.heap.size := by have := hb5.size; omega
            have hcl : j < cu.length := by rw [HI.out.len]; exact hjl
            have hjI : (j : Int) < (l.length : Int) := by omega
            clear hb5 HX HCA p0
            go_wp2_with fail
            refine (containsInt_any _ (ints yy) (j : Int) w5 _ (HX5.out.read hlen HI.out.len)).mono ?_
            rintro e w6 ⟨rfl, rfl⟩
            have HCD : Hid (decide ((j : Int) ∈ ints yy) = cu.getD j false) := Lib.hid (by
              cases hb : cu.getD j false with
              | true => exact decide_eq_true (mem_ints.2 ((HX5.out.mem j).2 hb))
              | false => exact decide_eq_false (fun e => by have := (HX5.out.mem j).1 (mem_ints.1 e); rw [hb] at this; cases this))
            rw [HCD.out]
            clear HCD
            cases hb : cu.getD j false with
            | true =>
              have HI2 := Lib.hid (dfs_old HI.out (by rw [HTE.out]; exact hlt) HJ.out hb)
              clear hb
              go_wp2_with fail
              go_roundw
              case rel => first | exact ⟨cu, yy, td, m + 1, by go_num, by omega, hmm, HX5, HI2⟩ | (repeat (apply Exists.intro); (refine And.intro ?_ ?_; rotate_left; (repeat' (first | exact rfl | apply And.intro)); exact ⟨cu, yy, td, m + 1, by go_num, by omega, hmm, HX5, HI2⟩))
              case measure => simp [intOf]; omega
            | false =>
              have HI2 := Lib.hid (dfs_new (more := td ++ [j]) HI.out (by rw [HTE.out]; exact hlt) HJ.out (fun x => by rw [List.mem_append, List.mem_singleton]))
              have HCN := Lib.hid (cnt_set hcl hb)
              have HJN : Hid (cu.getD j false = false) := Lib.hid hb
              clear hb
              obtain ⟨gq, hq, hne, hltq⟩ := HX5.out.que
              have HNE : Hid (∀ go, (Value.slice ao2 yy.length co2).ownBlock = some go → go ≠ gq) := Lib.hid hne
              have HQ5 := Lib.hid hq
              have HO5 := Lib.hid HX5.out.own
              have htd : td.length ≤ 1000000 := by omega
              have hyl : yy.length ≤ 100 := by have := HX5.out.cnt; omega
              clear hq hne
              have hgqB : G ≤ gq := HQ5.out.base
              have HKQ : Hid (∀ w7, w6.grownBy w7 (Value.slice ao2 yy.length co2).ownBlock → Que w7 3 G gq (.slice aq td.length cq) (ints td)) := Lib.hid (fun w7 hg => HQ5.out.same (hg.block gq hltq (fun e => HNE.out gq e.symm rfl)))
              go_wp2_with (at_builtin; first
                | (refine app_new (w := w6) rfl (.tmp 38) (.tmp 40) 26 rfl 3 (.int .i64 0) 1 8 Tryz.underlying26 int_info rfl (by decide) (m := 1) [.int .i64 (j : Int)] HO5.out hG5 rfl rfl rfl (by decide) (by simp [Value.oneCell']) (by unfold maxLen; omega) (by omega) ?_; intro g7 c7 w7 HO7 HG7 HE7 HL7; have hG7 : G ≤ w7.heap.size := Nat.le_trans hG5 HG7.out.size; have HQ7 := Lib.hid (HKQ.out w7 HG7.out))
                | (refine app_que (w := w7) rfl (.tmp 42) (.tmp 44) 26 rfl 3 Tryz.underlying26 int_info (B := G) (g := gq) (v := .slice aq td.length cq) (xs := ints td) (j : Int) HQ7.out hG7 rfl rfl (by rw [ints_len]; exact htd) ?_; intro v8 g8 w8 HQ8 HG8 HE8 HL8))
              have hs7 : w6.heap.size ≤ w7.heap.size := HG7.out.size
              have HG78 : Hid (g7 ≠ gq) := Lib.hid (by
                rcases HL7.out with e | e
                · exact HNE.out g7 e
                · omega)
              have HX8 : Hid (BeSt l fr G w (cu.set j true) (yy ++ [j]) (td ++ [j]) (.slice (some ⟨g7, 0, none⟩) (yy.length + 1) c7) v8 w8) := Lib.hid (by
                refine ⟨?_, fun x => ?_, ?_, ⟨g8, by rw [ints_app]; exact HQ8.out, (fun go hgo => ?_), HQ8.out.lt (by simp)⟩, ?_, HE8.out w (HE7.out w HX5.out.bel)⟩
                · rw [ivals_app, List.length_append, List.length_singleton]
                  exact HO7.out.kept HG8.out (.inr (fun e => HG78.out (by cases e; rfl)))
                · rw [List.mem_append, List.mem_singleton, getD_set _ _ _ hcl]
                  by_cases e : x = j
                  · simp [e]
                  · simp [e, HX5.out.mem x]
                · rw [List.length_append, List.length_singleton]; have := HX5.out.cnt; have := HCN.out; omega
                · obtain rfl : g7 = go := by cases hgo; rfl
                  rcases HL8.out with e | e
                  · rw [e]; exact HG78.out
                  · have := (HO7.out.lt g7 rfl).2; omega
                · rw [List.length_append, List.length_singleton]; have := HCN.out; omega)
              have HM8 : Hid (2 * (cu.set j true).count false + (td ++ [j]).length ≤ M) := Lib.hid (by rw [List.length_append, List.length_singleton]; have := HCN.out; omega)
              go_roundw
              case rel => first | exact ⟨cu.set j true, yy ++ [j], td ++ [j], m + 1, by go_num, by omega, HM8.out, by have := HX8.out; exact HX8, HI2⟩ | (repeat (apply Exists.intro); (refine And.intro ?_ ?_; rotate_left; (repeat' (first | exact rfl | apply And.intro)); exact ⟨cu.set j true, yy ++ [j], td ++ [j], m + 1, by go_num, by omega, HM8.out, by have := HX8.out; exact HX8, HI2⟩))
              case measure => simp [intOf]; omega
          · obtain rfl : m = ts.length := by omega
            have HD2 : Hid (Dfs l fr cu td) := Lib.hid (dfs_end (k := k) (by rw [HTE.out]; exact HI.out))
            have HMF : Hid (2 * (l.length - yy.length) + td.length < 2 * (l.length - ys.length) + (ini.length + 1)) := Lib.hid (by rw [HMD.out]; have := HX.out.cnt; omega)
            go_wp2_with fail
            go_roundw
            case rel => first | exact ⟨cu, yy, td, HX, HD2⟩ | (repeat (apply Exists.intro); (refine And.intro ?_ ?_; rotate_left; (repeat' (first | exact rfl | apply And.intro)); exact ⟨cu, yy, td, HX, HD2⟩))
            case measure => exact HMF.out
end Go.Proofs.YtdljgjlkfihjdaaGreatDoor
