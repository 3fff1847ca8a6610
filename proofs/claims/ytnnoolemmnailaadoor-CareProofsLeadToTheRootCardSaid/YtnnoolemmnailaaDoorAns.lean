/-
  'Answers' of both packages.
-/
import Derived.Test.YtnnoolemmnailaaDoorProg
import Derived.Test.YtnnoolemmnailaaDoorName
import Derived.Test.YtnnoolemmnailaaDoorFirstF
import Derived.Test.YtnnoolemmnailaaDoorRows11
namespace Go.Proofs.YtnnoolemmnailaaDoor
open Go.RowKit
set_option linter.unusedVariables false
set_option linter.unusedSimpArgs false

structure Rep where
  site : List UInt8
  answer : List UInt8
deriving Inhabited
def repRp : Rp Rep := (Rp.pair Rp.str Rp.str).via fun r => (bstr r.site, bstr r.answer)
theorem rep_open {w : World} {S : Nat → Prop} {us : List Value} {c : Rep} (h : repRp.ok w S us c) : us = [.string (bstr c.site), .string (bstr c.answer)] ∧ c.site.length ≤ maxLen ∧ c.answer.length ≤ maxLen := by
  obtain ⟨_, _, rfl, ⟨rfl, h1⟩, ⟨rfl, h2⟩⟩ := h
  exact ⟨rfl, h1, h2⟩
def ansF (l : List Rep) (i : Nat) : Int :=
  if isNm (l.getD i default).site = false then 5 else if (l.getD i default).answer ≠ [] ∧ isDig (l.getD i default).answer = false then 3
  else if 0 < i ∧ sle (l.getD i default).site (l.getD (i - 1) default).site = true then 8 else 0
def ansFault (nonce right : List UInt8) (l : List Rep) : Int :=
  if isRowB nonce 100 = false ∨ isDig right = false then 3 else if 50 < l.length then 2 else firstF (ansF l) l.length
def ansKeep (right : List UInt8) (l : List Rep) : List (List UInt8) := (l.filter fun r => decide (r.answer ≠ right)).map (·.site)
def ansOut (nonce right : List UInt8) (l : List Rep) : List (List UInt8) := if ansFault nonce right l = 0 then ansKeep right l else []
def AnsPost (nonce right : List UInt8) (l : List Rep) (w : World) (e : Ending) (w' : World) : Prop :=
  ∃ v, e = .returned (.tuple #[v, .int .i64 (ansFault nonce right l)]) ∧ (Rp.sl Rp.str).ok w' (· < w'.heap.size) [v] ((ansOut nonce right l).map bstr) ∧ Below w.heap.size w w'
theorem AnsPost.bad {nonce right : List UInt8} {l : List Rep} {f : Int} {w w' : World} (h : ansFault nonce right l = f) (h0 : f ≠ 0) (hb : Below w.heap.size w w') : AnsPost nonce right l w (.returned (.tuple #[.slice none 0 0, .int .i64 f])) w' := by
  refine ⟨_, by rw [h], ?_, hb⟩
  rw [ansOut, if_neg (by rw [h]; exact h0)]
  exact Rp.sl_nil _ _ _
theorem AnsPost.good {nonce right : List UInt8} {l : List Rep} {v : Value} {w w' : World} (h : ansFault nonce right l = 0) (hv : (Rp.sl Rp.str).ok w' (· < w'.heap.size) [v] ((ansKeep right l).map bstr)) (hb : Below w.heap.size w w') : AnsPost nonce right l w (.returned (.tuple #[v, .int .i64 0])) w' := by
  refine ⟨v, by rw [h], ?_, hb⟩
  rw [ansOut, if_pos h]
  exact hv
theorem ansF_1 {l : List Rep} {i : Nat} (hi : i < l.length) (h : isNm l[i].site = false) : ansF l i = 5 := by
  rw [ansF, getD_at _ _ hi, if_pos h]
theorem ansF_2 {l : List Rep} {i : Nat} (hi : i < l.length) (h : isNm l[i].site = true) (h1 : l[i].answer ≠ []) (h2 : isDig l[i].answer = false) : ansF l i = 3 := by
  rw [ansF, getD_at _ _ hi, if_neg (by rw [h]; decide), if_pos ⟨h1, h2⟩]
theorem ansF_3 {l : List Rep} {i : Nat} (hi : i < l.length) (h : isNm l[i].site = true) (h1 : ¬ (l[i].answer ≠ [] ∧ isDig l[i].answer = false)) (h2 : 0 < i) (h3 : sle l[i].site (l[i - 1]'(by omega)).site = true) : ansF l i = 8 := by
  rw [ansF, getD_at _ _ hi, getD_at _ _ (show i - 1 < l.length by omega), if_neg (by rw [h]; decide), if_neg h1, if_pos ⟨h2, h3⟩]
theorem ansF_4 {l : List Rep} {i : Nat} (hi : i < l.length) (h : isNm l[i].site = true) (h1 : ¬ (l[i].answer ≠ [] ∧ isDig l[i].answer = false)) (h2 : ¬ (0 < i ∧ sle l[i].site (l[i - 1]'(by omega)).site = true)) : ansF l i = 0 := by
  rw [ansF, getD_at _ _ hi, getD_at _ _ (show i - 1 < l.length by omega), if_neg (by rw [h]; decide), if_neg h1, if_neg h2]
theorem ansFault_at {nonce right : List UInt8} {l : List Rep} {i : Nat} (h1 : isRowB nonce 100 = true) (h2 : isDig right = true) (h3 : ¬ 50 < l.length) (hi : i < l.length) (hS : ∀ j, j < i → ansF l j = 0) {f : Int} (hf : ansF l i = f) (h0 : f ≠ 0) : ansFault nonce right l = f := by
  rw [ansFault, if_neg (by rw [h1, h2]; simp), if_neg h3, firstF_at hi hS (by rw [hf]; exact h0), hf]
theorem ansFault_ok {nonce right : List UInt8} {l : List Rep} (h1 : isRowB nonce 100 = true) (h2 : isDig right = true) (h3 : ¬ 50 < l.length) (hS : ∀ j, j < l.length → ansF l j = 0) : ansFault nonce right l = 0 := by
  rw [ansFault, if_neg (by rw [h1, h2]; simp), if_neg h3, firstF_ok hS]
theorem ansKeep_take {right : List UInt8} {l : List Rep} {i : Nat} (hi : i < l.length) : ansKeep right (l.take (i + 1)) = ansKeep right (l.take i) ++ if l[i].answer = right then [] else [l[i].site] := by
  rw [List.take_succ_eq_append_getElem hi, ansKeep, List.filter_append, List.map_append]
  by_cases h : l[i].answer = right <;> simp [h, ansKeep]
theorem ansKeep_len (right : List UInt8) (l : List Rep) : (ansKeep right l).length ≤ l.length := by
  rw [ansKeep, List.length_map]; exact List.length_filter_le _ _
theorem ansKeep_mem {right : List UInt8} {l : List Rep} {s : List UInt8} (h : s ∈ ansKeep right l) : ∃ r ∈ l, r.site = s := by
  obtain ⟨r, hr, e⟩ := List.mem_map.1 h
  exact ⟨r, (List.mem_filter.1 hr).1, e⟩
theorem rep_sizes {w : World} {S : Nat → Prop} {v : Value} {l : List Rep} (h : (Rp.sl repRp).ok w S [v] l) : ∀ r ∈ l, r.site.length ≤ maxLen ∧ r.answer.length ≤ maxLen := by
  intro r hr
  obtain ⟨k, hk, rfl⟩ := List.getElem_of_mem hr
  obtain ⟨A, cp, rfl, _⟩ := Rp.sl_open h
  obtain ⟨_, us, _, _, _, hu, _⟩ := Rp.sl_at h hk
  exact (rep_open hu).2
set_option maxRecDepth 100000 in
set_option maxHeartbeats 4000000 in
theorem answers_any (nonce right : List UInt8) (v : Value) (l : List Rep) (w : World) (hn : nonce.length ≤ 9223372036854775807) (hr : right.length ≤ 9223372036854775807) (h : (Rp.sl repRp).ok w (· < w.heap.size) [v] l) :
    Calls Tryd.prog 29 #[.string (bstr nonce), .string (bstr right), v] w (AnsPost nonce right l w) := by
  obtain ⟨A, c, rfl, hl, hc, _⟩ := Rp.sl_open h
  unfold maxLen at hc
  have H := Lib.hid h
  clear h
  have hc1 := (isNonce_any nonce w hn)
  go_enter Tryd.func29, Tryd.ntmps29
  go_wp2_with fail
  refine hc1.mono ?_
  rintro e w1 ⟨rfl, rfl⟩
  clear hc1
  cases hnn : isRowB nonce 100 with
  | false =>
    have HP := Lib.hid (AnsPost.bad (w := w) (l := l) (right := right) (f := 3) (by rw [ansFault, if_pos (.inl hnn)]) (by decide) (Below.refl _ _))
    clear hnn
    go_wp2_with fail
    go_ret2
    exact HP.out
  | true =>
  go_wp2_with fail
  refine (isDigest_any right _ hr).mono ?_
  rintro e w1 ⟨rfl, hb1⟩
  have HB1 := Lib.hid hb1
  have H1 := Lib.hid (Rp.ext _ H.out hb1)
  clear hb1 H
  cases hrr : isDig right with
  | false =>
    have HP := Lib.hid (AnsPost.bad (w := w) (l := l) (nonce := nonce) (f := 3) (by rw [ansFault, if_pos (.inr hrr)]) (by decide) HB1.out)
    clear hrr hnn
    go_wp2_with fail
    go_ret2
    exact HP.out
  | true =>
  have HNN := Lib.hid hnn
  have HRR := Lib.hid hrr
  clear hnn hrr
  by_cases h5 : 50 < l.length
  · have HP := Lib.hid (AnsPost.bad (w := w) (l := l) (nonce := nonce) (right := right) (f := 2) (by rw [ansFault, if_neg (by rw [HNN.out, HRR.out]; simp), if_pos h5]) (by decide) HB1.out)
    have h5' : (50 : Int) < (l.length : Int) := by omega
    clear h5
    go_wp2_with fail
    go_ret2
    exact HP.out
  have h5' : ¬ (50 : Int) < (l.length : Int) := by omega
  go_wp2_with fail
  go_loopw [8, 24] (fun vo i wr => ∃ k : Nat, k ≤ l.length ∧ i = .int .i64 k ∧ Hid (∀ j, j < k → ansF l j = 0) ∧ Hid (wr.ownsRow w1.heap.size 9 1 vo (ansKeep right (l.take k)).length (strs (ansKeep right (l.take k)))) ∧ Hid (Below w1.heap.size w1 wr)) (fun _ i _ => l.length - (intOf i).toNat)
  case atStart => exact ⟨0, by omega, rfl, (fun j hj => absurd hj (by omega)), World.ownsRow_nil _ _ _ _, Below.refl _ _⟩
  case round =>
    obtain ⟨k, hk, rfl, HS, HO, HB⟩ := hrel
    by_cases hlt : k < l.length
    · have HR := Lib.hid (Rp.below _ H1.out HB.out)
      obtain ⟨ad, us, rfl, _, hadb, hu, hcell⟩ := Rp.sl_at HR.out hlt
      obtain ⟨rfl, hz1, hz2⟩ := rep_open hu
      have c0 := hcell 0 _ rfl
      rw [Nat.add_zero] at c0
      change World.cell? _ (ad.add (k * 2)) = some (.string (bstr l[k].site)) at c0
      have c1 := hcell 1 _ rfl
      rw [add_fld _ _ _ (by omega)] at c1
      change World.cell? _ ⟨(ad.add (k * 2)).block, (ad.add (k * 2)).off + 1, none⟩ = some (.string (bstr l[k].answer)) at c1
      unfold maxLen at hz1 hz2
      have hF1 := fun h => ansFault_at (nonce := nonce) (right := right) HNN.out HRR.out h5 hlt HS.out (ansF_1 hlt h) (by decide)
      have hF2 := fun h h1 h2 => ansFault_at (nonce := nonce) (right := right) HNN.out HRR.out h5 hlt HS.out (ansF_2 hlt h h1 h2) (by decide)
      have hF3 := fun h h1 h2 h3 => ansFault_at (nonce := nonce) (right := right) HNN.out HRR.out h5 hlt HS.out (ansF_3 hlt h h1 h2 h3) (by decide)
      have hF4 := fun h h1 h2 => firstF_step HS.out (ansF_4 hlt h h1 h2)
      have hKT := ansKeep_take (right := right) hlt
      have hkl := ansKeep_len right (l.take k)
      rw [List.length_take] at hkl
      have F1 := Lib.hid hF1
      have F2 := Lib.hid hF2
      have F3 := Lib.hid hF3
      have F4 := Lib.hid hF4
      have KT := Lib.hid hKT
      obtain ⟨n, hn9⟩ : ∃ n, (ansKeep right (l.take k)).length = n := ⟨_, rfl⟩
      rw [hn9] at HO hkl
      have HN := Lib.hid hn9
      clear hcell hu hadb hF1 hF2 hF3 hF4 hKT hn9
      generalize hx : l[k] = x at *
      clear hx
      have HB9 := Lib.hid (HB1.out.trans (HB.out.mono HB1.out.size))
      obtain ⟨A5, c5, rfl, hn5, hc5, _⟩ := own_form HO.out
      have hwsz := HB.out.size
      have HHB := Lib.hid (HB.out.alloc hwsz (.cells #[.string (bstr x.site), .string (bstr x.answer)] 130))
      have HO1 := Lib.hid (HO.out.alloc (.cells #[.string (bstr x.site), .string (bstr x.answer)] 130))
      have hkb := Blk.new wr 130 [.string (bstr x.site), .string (bstr x.answer)]
      have k0 : _ = some (Value.string (bstr x.site)) := hkb.cell 0
      have k1 : _ = some (Value.string (bstr x.answer)) := hkb.cell 1
      go_wp2_with fail
      refine (isName_any x.site _ hz1).mono ?_
      rintro e w5 ⟨rfl, hb5⟩
      have HB5 := Lib.hid (HHB.out.trans (hb5.mono (by have := HHB.out.size; have := HB.out.size; omega)))
      have hk5 := hkb.same (same_below hb5) (by simp)
      have h50 : w5.cell? ⟨wr.heap.size, 0, none⟩ = some (.string (bstr x.site)) := hk5.cell 0
      have h51 : w5.cell? ⟨wr.heap.size, 1, none⟩ = some (.string (bstr x.answer)) := hk5.cell 1
      have hsz5 : wr.heap.size < w5.heap.size := hk5.lt
      have HO5 := Lib.hid (own_below HO1.out hb5)
      clear hb5 hk5
      clear k0 k1 hkb HHB HO1 HO
      have HW5 := Lib.hid (HB1.out.trans (HB5.out.mono HB1.out.size))
      cases hnm : isNm x.site with
      | false =>
        have HP := Lib.hid (AnsPost.bad (w := w) (F1.out hnm) (by decide) HW5.out)
        clear hnm
        go_wp2_with fail
        go_ret2
        exact HP.out
      | true =>
      have HNM := Lib.hid hnm
      clear hnm F1
      by_cases ha : x.answer = []
      · have hbe := bstr_empty ha
        have NB : Hid (¬ (x.answer ≠ [] ∧ isDig x.answer = false)) := Lib.hid (fun h => h.1 ha)
        clear ha F2
        have HB6 := HB5
        have HO6 := HO5
        have d0 := h50
        have d1 := h51
        have HW6 := HW5
        clear HB5 HO5 h50 h51 HW5
        obtain ⟨w6, hw6⟩ : ∃ w6, w6 = w5 := ⟨_, rfl⟩
        subst hw6
        by_cases hk0 : k = 0
        · have F5 := Lib.hid (F4.out HNM.out NB.out (fun h => absurd h.1 (by omega)))
          have hk0' : ¬ (0 : Int) < (k : Int) := by omega
          have hk0n : ¬ 0 < k := by omega
          clear F3 F4 NB HNM hk0
          go_wp2_with fail
          go_quiet (fail)
          have e0 : (w6.drewN nq).cell? ⟨wr.heap.size, 0, none⟩ = some (.string (bstr x.site)) := d0
          have e1 : (w6.drewN nq).cell? ⟨wr.heap.size, 1, none⟩ = some (.string (bstr x.answer)) := d1
          have HO7 := Lib.hid (own_drewN HO6.out nq)
          have HB7 := Lib.hid (below_drewN HB6.out nq)
          clear d0 d1 HO6 HB6 HW6
          generalize w6.drewN nq = w7 at *
          by_cases hq : x.answer = right
          · have hb1 : ((bstr x.answer).toList == (bstr right).toList) = true := str_beq (by rw [hq])
            have hb2 : ((bstr x.answer).toList != (bstr right).toList) = false := by rw [bne, hb1]; rfl
            have HQ := Lib.hid hq
            clear hq
            go_wp2_with fail
            go_roundw
            case rel => exact ⟨k + 1, by omega, by go_num, F5.out, by rw [KT.out, if_pos HQ.out, List.append_nil, HN.out]; exact HO7.out, HB7.out⟩
            case measure => simp [intOf]; omega
          · have hb1 : ((bstr x.answer).toList == (bstr right).toList) = false := str_bne (fun e => hq (bstr_inj e))
            have hb2 : ((bstr x.answer).toList != (bstr right).toList) = true := by rw [bne, hb1]; rfl
            have HQ := Lib.hid hq
            clear hq
            go_wp2_with (at_builtin; refine app_str rfl (.tmp 62) (.tmp 65) rfl HO7.out HB7.out.size rfl rfl (by omega) ?_; intro g1 cc1 w9 HO9 HG9 HB9x HL9)
            go_roundw
            case rel => exact ⟨k + 1, by omega, by go_num, F5.out, by rw [KT.out, if_neg HQ.out, strs_app, List.length_append, HN.out]; exact HO9.out, HB9x.out _ HB7.out⟩
            case measure => simp [intOf]; omega
        · obtain ⟨m, rfl⟩ : ∃ m, k = m + 1 := ⟨k - 1, by omega⟩
          have hm : m < l.length := by omega
          obtain ⟨ad', us, e1, _, _, hu, hcell⟩ := Rp.sl_at (Rp.below _ H1.out HB6.out) hm
          injection e1 with e1
          subst e1
          obtain ⟨rfl, hy1, hy2⟩ := rep_open hu
          have p0 := hcell 0 _ rfl
          rw [Nat.add_zero] at p0
          change World.cell? _ (ad.add (m * 2)) = some (.string (bstr l[m].site)) at p0
          simp only [Nat.add_sub_cancel] at F3 F4
          have F3' : sle x.site l[m].site = true → ansFault nonce right l = 8 := fun h => F3.out HNM.out NB.out (by omega) h
          have F4' : sle x.site l[m].site = false → ∀ j, j < m + 1 + 1 → ansF l j = 0 := fun h => F4.out HNM.out NB.out (fun e => by rw [h] at e; exact absurd e.2 (by decide))
          clear hcell hu F3 F4
          generalize l[m] = y at *
          have F3 := Lib.hid F3'
          have F4 := Lib.hid F4'
          clear F3' F4' NB HNM
          go_wp2_with fail
          have hk0' : (0 : Int) < (m : Int) + 1 := by omega
          have hkm : IntKind.i64.wrap ((m : Int) + 1 - 1) = m := by rw [Int.add_sub_cancel]; exact IntWalk.i64_in _ (by omega)
          have hm0 : (0 : Int) ≤ (m : Int) := by omega
          have hml : (m : Int) < (l.length : Int) := by omega
          go_quiet (fail)
          rw [sle_eq]
          clear hk0' hkm hm0 hml p0 hk0
          cases hs : sle x.site y.site with
          | true =>
            have HP := Lib.hid (AnsPost.bad (w := w) (F3.out hs) (by decide) (below_drewN HW6.out nq))
            clear hs
            go_wp2_with fail
            go_ret2
            exact HP.out
          | false =>
          have F5 := Lib.hid (F4.out hs)
          clear hs F3 F4
          have e0 : (w6.drewN nq).cell? ⟨wr.heap.size, 0, none⟩ = some (.string (bstr x.site)) := d0
          have e1 : (w6.drewN nq).cell? ⟨wr.heap.size, 1, none⟩ = some (.string (bstr x.answer)) := d1
          have HO7 := Lib.hid (own_drewN HO6.out nq)
          have HB7 := Lib.hid (below_drewN HB6.out nq)
          clear d0 d1 HO6 HB6 HW6
          generalize w6.drewN nq = w7 at *
          by_cases hq : x.answer = right
          · have hb1 : ((bstr x.answer).toList == (bstr right).toList) = true := str_beq (by rw [hq])
            have hb2 : ((bstr x.answer).toList != (bstr right).toList) = false := by rw [bne, hb1]; rfl
            have HQ := Lib.hid hq
            clear hq
            go_wp2_with fail
            go_roundw
            case rel => exact ⟨m + 1 + 1, by omega, by go_num, F5.out, by rw [KT.out, if_pos HQ.out, List.append_nil, HN.out]; exact HO7.out, HB7.out⟩
            case measure => simp [intOf]; omega
          · have hb1 : ((bstr x.answer).toList == (bstr right).toList) = false := str_bne (fun e => hq (bstr_inj e))
            have hb2 : ((bstr x.answer).toList != (bstr right).toList) = true := by rw [bne, hb1]; rfl
            have HQ := Lib.hid hq
            clear hq
            go_wp2_with (at_builtin; refine app_str rfl (.tmp 62) (.tmp 65) rfl HO7.out HB7.out.size rfl rfl (by omega) ?_; intro g1 cc1 w9 HO9 HG9 HB9x HL9)
            go_roundw
            case rel => exact ⟨m + 1 + 1, by omega, by go_num, F5.out, by rw [KT.out, if_neg HQ.out, strs_app, List.length_append, HN.out]; exact HO9.out, HB9x.out _ HB7.out⟩
            case measure => simp [intOf]; omega
      · have hbe := bstr_some ha
        go_wp2_with fail
        refine (isDigest_any x.answer _ hz2).mono ?_
        rintro e w6 ⟨rfl, hb6⟩
        have HB6 := Lib.hid (HB5.out.trans (hb6.mono HB5.out.size))
        have HO6 := Lib.hid (own_below HO5.out hb6)
        have d0 : w6.cell? ⟨wr.heap.size, 0, none⟩ = some (.string (bstr x.site)) := (hb6.cell hsz5).trans h50
        have d1 : w6.cell? ⟨wr.heap.size, 1, none⟩ = some (.string (bstr x.answer)) := (hb6.cell hsz5).trans h51
        have HW6 := Lib.hid (HB1.out.trans (HB6.out.mono HB1.out.size))
        clear hb6 HB5 HO5 h50 h51 HW5
        cases hdg : isDig x.answer with
        | false =>
          have HP := Lib.hid (AnsPost.bad (w := w) (F2.out HNM.out ha hdg) (by decide) HW6.out)
          clear hdg ha
          go_wp2_with fail
          go_ret2
          exact HP.out
        | true =>
        have NB : Hid (¬ (x.answer ≠ [] ∧ isDig x.answer = false)) := Lib.hid (fun h => by rw [hdg] at h; exact absurd h.2 (by decide))
        clear ha hdg F2
        by_cases hk0 : k = 0
        · have F5 := Lib.hid (F4.out HNM.out NB.out (fun h => absurd h.1 (by omega)))
          have hk0' : ¬ (0 : Int) < (k : Int) := by omega
          have hk0n : ¬ 0 < k := by omega
          clear F3 F4 NB HNM hk0
          go_wp2_with fail
          go_quiet (fail)
          have e0 : (w6.drewN nq).cell? ⟨wr.heap.size, 0, none⟩ = some (.string (bstr x.site)) := d0
          have e1 : (w6.drewN nq).cell? ⟨wr.heap.size, 1, none⟩ = some (.string (bstr x.answer)) := d1
          have HO7 := Lib.hid (own_drewN HO6.out nq)
          have HB7 := Lib.hid (below_drewN HB6.out nq)
          clear d0 d1 HO6 HB6 HW6
          generalize w6.drewN nq = w7 at *
          by_cases hq : x.answer = right
          · have hb1 : ((bstr x.answer).toList == (bstr right).toList) = true := str_beq (by rw [hq])
            have hb2 : ((bstr x.answer).toList != (bstr right).toList) = false := by rw [bne, hb1]; rfl
            have HQ := Lib.hid hq
            clear hq
            go_wp2_with fail
            go_roundw
            case rel => exact ⟨k + 1, by omega, by go_num, F5.out, by rw [KT.out, if_pos HQ.out, List.append_nil, HN.out]; exact HO7.out, HB7.out⟩
            case measure => simp [intOf]; omega
          · have hb1 : ((bstr x.answer).toList == (bstr right).toList) = false := str_bne (fun e => hq (bstr_inj e))
            have hb2 : ((bstr x.answer).toList != (bstr right).toList) = true := by rw [bne, hb1]; rfl
            have HQ := Lib.hid hq
            clear hq
            go_wp2_with (at_builtin; refine app_str rfl (.tmp 62) (.tmp 65) rfl HO7.out HB7.out.size rfl rfl (by omega) ?_; intro g1 cc1 w9 HO9 HG9 HB9x HL9)
            go_roundw
            case rel => exact ⟨k + 1, by omega, by go_num, F5.out, by rw [KT.out, if_neg HQ.out, strs_app, List.length_append, HN.out]; exact HO9.out, HB9x.out _ HB7.out⟩
            case measure => simp [intOf]; omega
        · obtain ⟨m, rfl⟩ : ∃ m, k = m + 1 := ⟨k - 1, by omega⟩
          have hm : m < l.length := by omega
          obtain ⟨ad', us, e1, _, _, hu, hcell⟩ := Rp.sl_at (Rp.below _ H1.out HB6.out) hm
          injection e1 with e1
          subst e1
          obtain ⟨rfl, hy1, hy2⟩ := rep_open hu
          have p0 := hcell 0 _ rfl
          rw [Nat.add_zero] at p0
          change World.cell? _ (ad.add (m * 2)) = some (.string (bstr l[m].site)) at p0
          simp only [Nat.add_sub_cancel] at F3 F4
          have F3' : sle x.site l[m].site = true → ansFault nonce right l = 8 := fun h => F3.out HNM.out NB.out (by omega) h
          have F4' : sle x.site l[m].site = false → ∀ j, j < m + 1 + 1 → ansF l j = 0 := fun h => F4.out HNM.out NB.out (fun e => by rw [h] at e; exact absurd e.2 (by decide))
          clear hcell hu F3 F4
          generalize l[m] = y at *
          have F3 := Lib.hid F3'
          have F4 := Lib.hid F4'
          clear F3' F4' NB HNM
          go_wp2_with fail
          have hk0' : (0 : Int) < (m : Int) + 1 := by omega
          have hkm : IntKind.i64.wrap ((m : Int) + 1 - 1) = m := by rw [Int.add_sub_cancel]; exact IntWalk.i64_in _ (by omega)
          have hm0 : (0 : Int) ≤ (m : Int) := by omega
          have hml : (m : Int) < (l.length : Int) := by omega
          go_quiet (fail)
          rw [sle_eq]
          clear hk0' hkm hm0 hml p0 hk0
          cases hs : sle x.site y.site with
          | true =>
            have HP := Lib.hid (AnsPost.bad (w := w) (F3.out hs) (by decide) (below_drewN HW6.out nq))
            clear hs
            go_wp2_with fail
            go_ret2
            exact HP.out
          | false =>
          have F5 := Lib.hid (F4.out hs)
          clear hs F3 F4
          have e0 : (w6.drewN nq).cell? ⟨wr.heap.size, 0, none⟩ = some (.string (bstr x.site)) := d0
          have e1 : (w6.drewN nq).cell? ⟨wr.heap.size, 1, none⟩ = some (.string (bstr x.answer)) := d1
          have HO7 := Lib.hid (own_drewN HO6.out nq)
          have HB7 := Lib.hid (below_drewN HB6.out nq)
          clear d0 d1 HO6 HB6 HW6
          generalize w6.drewN nq = w7 at *
          by_cases hq : x.answer = right
          · have hb1 : ((bstr x.answer).toList == (bstr right).toList) = true := str_beq (by rw [hq])
            have hb2 : ((bstr x.answer).toList != (bstr right).toList) = false := by rw [bne, hb1]; rfl
            have HQ := Lib.hid hq
            clear hq
            go_wp2_with fail
            go_roundw
            case rel => exact ⟨m + 1 + 1, by omega, by go_num, F5.out, by rw [KT.out, if_pos HQ.out, List.append_nil, HN.out]; exact HO7.out, HB7.out⟩
            case measure => simp [intOf]; omega
          · have hb1 : ((bstr x.answer).toList == (bstr right).toList) = false := str_bne (fun e => hq (bstr_inj e))
            have hb2 : ((bstr x.answer).toList != (bstr right).toList) = true := by rw [bne, hb1]; rfl
            have HQ := Lib.hid hq
            clear hq
            go_wp2_with (at_builtin; refine app_str rfl (.tmp 62) (.tmp 65) rfl HO7.out HB7.out.size rfl rfl (by omega) ?_; intro g1 cc1 w9 HO9 HG9 HB9x HL9)
            go_roundw
            case rel => exact ⟨m + 1 + 1, by omega, by go_num, F5.out, by rw [KT.out, if_neg HQ.out, strs_app, List.length_append, HN.out]; exact HO9.out, HB9x.out _ HB7.out⟩
            case measure => simp [intOf]; omega
    · obtain rfl : k = l.length := by omega
      rw [List.take_length] at HO
      have HF := Lib.hid (ansFault_ok (nonce := nonce) (right := right) HNN.out HRR.out h5 HS.out)
      have HW := Lib.hid (HB1.out.trans (HB.out.mono HB1.out.size))
      have hsz := fun s (hs : s ∈ ansKeep right l) => (show s.length ≤ maxLen by
        obtain ⟨r, hr, rfl⟩ := ansKeep_mem hs
        exact (rep_sizes H1.out r hr).1)
      have HR : Hid ((Rp.sl Rp.str).ok wr (· < wr.heap.size) [_] ((ansKeep right l).map bstr)) :=
        Lib.hid (Rp.str_own (n := (ansKeep right l).length) (B := w1.heap.size) (e := 9) (by rw [List.map_map]; exact HO.out) (fun x hx => by obtain ⟨s, hs, rfl⟩ := List.mem_map.1 hx; rw [bstr_size]; exact hsz s hs) (fun g hg => (HO.out.lt g hg).2))
      clear hsz
      go_wp2_with fail
      go_ret2
      exact AnsPost.good HF.out HR.out HW.out
set_option maxRecDepth 100000 in
set_option maxHeartbeats 4000000 in
theorem refAnswers_any (nonce right : List UInt8) (v : Value) (l : List Rep) (w : World) (hn : nonce.length ≤ 9223372036854775807) (hr : right.length ≤ 9223372036854775807) (h : (Rp.sl repRp).ok w (· < w.heap.size) [v] l) :
    Calls Tryd.prog 30 #[.string (bstr nonce), .string (bstr right), v] w (AnsPost nonce right l w) := by
  obtain ⟨A, c, rfl, hl, hc, _⟩ := Rp.sl_open h
  unfold maxLen at hc
  have H := Lib.hid h
  clear h
  have hc1 := (refIsRow_any nonce 100 w hn)
  go_enter Tryd.func30, Tryd.ntmps30
  go_wp2_with fail
  refine hc1.mono ?_
  rintro e w1 ⟨rfl, rfl⟩
  clear hc1
  cases hnn : isRowB nonce 100 with
  | false =>
    have HP := Lib.hid (AnsPost.bad (w := w) (l := l) (right := right) (f := 3) (by rw [ansFault, if_pos (.inl hnn)]) (by decide) (Below.refl _ _))
    clear hnn
    go_wp2_with fail
    go_ret2
    exact HP.out
  | true =>
  go_wp2_with fail
  refine (refIsDigest_any right _ hr).mono ?_
  rintro e w1 ⟨rfl, hb1⟩
  have HB1 := Lib.hid hb1
  have H1 := Lib.hid (Rp.ext _ H.out hb1)
  clear hb1 H
  cases hrr : isDig right with
  | false =>
    have HP := Lib.hid (AnsPost.bad (w := w) (l := l) (nonce := nonce) (f := 3) (by rw [ansFault, if_pos (.inr hrr)]) (by decide) HB1.out)
    clear hrr hnn
    go_wp2_with fail
    go_ret2
    exact HP.out
  | true =>
  have HNN := Lib.hid hnn
  have HRR := Lib.hid hrr
  clear hnn hrr
  by_cases h5 : 50 < l.length
  · have HP := Lib.hid (AnsPost.bad (w := w) (l := l) (nonce := nonce) (right := right) (f := 2) (by rw [ansFault, if_neg (by rw [HNN.out, HRR.out]; simp), if_pos h5]) (by decide) HB1.out)
    have h5' : (50 : Int) < (l.length : Int) := by omega
    clear h5
    go_wp2_with fail
    go_ret2
    exact HP.out
  have h5' : ¬ (50 : Int) < (l.length : Int) := by omega
  go_wp2_with fail
  go_loopw [8, 24] (fun vo i wr => ∃ k : Nat, k ≤ l.length ∧ i = .int .i64 k ∧ Hid (∀ j, j < k → ansF l j = 0) ∧ Hid (wr.ownsRow w1.heap.size 9 1 vo (ansKeep right (l.take k)).length (strs (ansKeep right (l.take k)))) ∧ Hid (Below w1.heap.size w1 wr)) (fun _ i _ => l.length - (intOf i).toNat)
  case atStart => exact ⟨0, by omega, rfl, (fun j hj => absurd hj (by omega)), World.ownsRow_nil _ _ _ _, Below.refl _ _⟩
  case round =>
    obtain ⟨k, hk, rfl, HS, HO, HB⟩ := hrel
    by_cases hlt : k < l.length
    · have HR := Lib.hid (Rp.below _ H1.out HB.out)
      obtain ⟨ad, us, rfl, _, hadb, hu, hcell⟩ := Rp.sl_at HR.out hlt
      obtain ⟨rfl, hz1, hz2⟩ := rep_open hu
      have c0 := hcell 0 _ rfl
      rw [Nat.add_zero] at c0
      change World.cell? _ (ad.add (k * 2)) = some (.string (bstr l[k].site)) at c0
      have c1 := hcell 1 _ rfl
      rw [add_fld _ _ _ (by omega)] at c1
      change World.cell? _ ⟨(ad.add (k * 2)).block, (ad.add (k * 2)).off + 1, none⟩ = some (.string (bstr l[k].answer)) at c1
      unfold maxLen at hz1 hz2
      have hF1 := fun h => ansFault_at (nonce := nonce) (right := right) HNN.out HRR.out h5 hlt HS.out (ansF_1 hlt h) (by decide)
      have hF2 := fun h h1 h2 => ansFault_at (nonce := nonce) (right := right) HNN.out HRR.out h5 hlt HS.out (ansF_2 hlt h h1 h2) (by decide)
      have hF3 := fun h h1 h2 h3 => ansFault_at (nonce := nonce) (right := right) HNN.out HRR.out h5 hlt HS.out (ansF_3 hlt h h1 h2 h3) (by decide)
      have hF4 := fun h h1 h2 => firstF_step HS.out (ansF_4 hlt h h1 h2)
      have hKT := ansKeep_take (right := right) hlt
      have hkl := ansKeep_len right (l.take k)
      rw [List.length_take] at hkl
      have F1 := Lib.hid hF1
      have F2 := Lib.hid hF2
      have F3 := Lib.hid hF3
      have F4 := Lib.hid hF4
      have KT := Lib.hid hKT
      obtain ⟨n, hn9⟩ : ∃ n, (ansKeep right (l.take k)).length = n := ⟨_, rfl⟩
      rw [hn9] at HO hkl
      have HN := Lib.hid hn9
      clear hcell hu hadb hF1 hF2 hF3 hF4 hKT hn9
      generalize hx : l[k] = x at *
      clear hx
      have HB9 := Lib.hid (HB1.out.trans (HB.out.mono HB1.out.size))
      obtain ⟨A5, c5, rfl, hn5, hc5, _⟩ := own_form HO.out
      have hwsz := HB.out.size
      have HHB := Lib.hid (HB.out.alloc hwsz (.cells #[.string (bstr x.site), .string (bstr x.answer)] 130))
      have HO1 := Lib.hid (HO.out.alloc (.cells #[.string (bstr x.site), .string (bstr x.answer)] 130))
      have hkb := Blk.new wr 130 [.string (bstr x.site), .string (bstr x.answer)]
      have k0 : _ = some (Value.string (bstr x.site)) := hkb.cell 0
      have k1 : _ = some (Value.string (bstr x.answer)) := hkb.cell 1
      go_wp2_with fail
      refine (refIsName_any x.site _ hz1).mono ?_
      rintro e w5 ⟨rfl, rfl⟩
      have HB5 := HHB
      have HO5 := HO1
      have h50 := k0
      have h51 := k1
      have hsz5 : wr.heap.size < (wr.alloc (.cells #[.string (bstr x.site), .string (bstr x.answer)] 130)).heap.size := by simp
      generalize wr.alloc (.cells #[.string (bstr x.site), .string (bstr x.answer)] 130) = w5 at *
      clear k0 k1 hkb HHB HO1 HO
      have HW5 := Lib.hid (HB1.out.trans (HB5.out.mono HB1.out.size))
      cases hnm : isNm x.site with
      | false =>
        have HP := Lib.hid (AnsPost.bad (w := w) (F1.out hnm) (by decide) HW5.out)
        clear hnm
        go_wp2_with fail
        go_ret2
        exact HP.out
      | true =>
      have HNM := Lib.hid hnm
      clear hnm F1
      by_cases ha : x.answer = []
      · have hbe := bstr_empty ha
        have NB : Hid (¬ (x.answer ≠ [] ∧ isDig x.answer = false)) := Lib.hid (fun h => h.1 ha)
        clear ha F2
        have HB6 := HB5
        have HO6 := HO5
        have d0 := h50
        have d1 := h51
        have HW6 := HW5
        clear HB5 HO5 h50 h51 HW5
        obtain ⟨w6, hw6⟩ : ∃ w6, w6 = w5 := ⟨_, rfl⟩
        subst hw6
        by_cases hk0 : k = 0
        · have F5 := Lib.hid (F4.out HNM.out NB.out (fun h => absurd h.1 (by omega)))
          have hk0' : ¬ (0 : Int) < (k : Int) := by omega
          have hk0n : ¬ 0 < k := by omega
          clear F3 F4 NB HNM hk0
          go_wp2_with fail
          go_quiet (fail)
          have e0 : (w6.drewN nq).cell? ⟨wr.heap.size, 0, none⟩ = some (.string (bstr x.site)) := d0
          have e1 : (w6.drewN nq).cell? ⟨wr.heap.size, 1, none⟩ = some (.string (bstr x.answer)) := d1
          have HO7 := Lib.hid (own_drewN HO6.out nq)
          have HB7 := Lib.hid (below_drewN HB6.out nq)
          clear d0 d1 HO6 HB6 HW6
          generalize w6.drewN nq = w7 at *
          by_cases hq : x.answer = right
          · have hb1 : ((bstr x.answer).toList == (bstr right).toList) = true := str_beq (by rw [hq])
            have hb2 : ((bstr x.answer).toList != (bstr right).toList) = false := by rw [bne, hb1]; rfl
            have HQ := Lib.hid hq
            clear hq
            go_wp2_with fail
            go_roundw
            case rel => exact ⟨k + 1, by omega, by go_num, F5.out, by rw [KT.out, if_pos HQ.out, List.append_nil, HN.out]; exact HO7.out, HB7.out⟩
            case measure => simp [intOf]; omega
          · have hb1 : ((bstr x.answer).toList == (bstr right).toList) = false := str_bne (fun e => hq (bstr_inj e))
            have hb2 : ((bstr x.answer).toList != (bstr right).toList) = true := by rw [bne, hb1]; rfl
            have HQ := Lib.hid hq
            clear hq
            go_wp2_with (at_builtin; refine app_str rfl (.tmp 62) (.tmp 65) rfl HO7.out HB7.out.size rfl rfl (by omega) ?_; intro g1 cc1 w9 HO9 HG9 HB9x HL9)
            go_roundw
            case rel => exact ⟨k + 1, by omega, by go_num, F5.out, by rw [KT.out, if_neg HQ.out, strs_app, List.length_append, HN.out]; exact HO9.out, HB9x.out _ HB7.out⟩
            case measure => simp [intOf]; omega
        · obtain ⟨m, rfl⟩ : ∃ m, k = m + 1 := ⟨k - 1, by omega⟩
          have hm : m < l.length := by omega
          obtain ⟨ad', us, e1, _, _, hu, hcell⟩ := Rp.sl_at (Rp.below _ H1.out HB6.out) hm
          injection e1 with e1
          subst e1
          obtain ⟨rfl, hy1, hy2⟩ := rep_open hu
          have p0 := hcell 0 _ rfl
          rw [Nat.add_zero] at p0
          change World.cell? _ (ad.add (m * 2)) = some (.string (bstr l[m].site)) at p0
          simp only [Nat.add_sub_cancel] at F3 F4
          have F3' : sle x.site l[m].site = true → ansFault nonce right l = 8 := fun h => F3.out HNM.out NB.out (by omega) h
          have F4' : sle x.site l[m].site = false → ∀ j, j < m + 1 + 1 → ansF l j = 0 := fun h => F4.out HNM.out NB.out (fun e => by rw [h] at e; exact absurd e.2 (by decide))
          clear hcell hu F3 F4
          generalize l[m] = y at *
          have F3 := Lib.hid F3'
          have F4 := Lib.hid F4'
          clear F3' F4' NB HNM
          go_wp2_with fail
          have hk0' : (0 : Int) < (m : Int) + 1 := by omega
          have hkm : IntKind.i64.wrap ((m : Int) + 1 - 1) = m := by rw [Int.add_sub_cancel]; exact IntWalk.i64_in _ (by omega)
          have hm0 : (0 : Int) ≤ (m : Int) := by omega
          have hml : (m : Int) < (l.length : Int) := by omega
          go_quiet (fail)
          rw [sle_eq]
          clear hk0' hkm hm0 hml p0 hk0
          cases hs : sle x.site y.site with
          | true =>
            have HP := Lib.hid (AnsPost.bad (w := w) (F3.out hs) (by decide) (below_drewN HW6.out nq))
            clear hs
            go_wp2_with fail
            go_ret2
            exact HP.out
          | false =>
          have F5 := Lib.hid (F4.out hs)
          clear hs F3 F4
          have e0 : (w6.drewN nq).cell? ⟨wr.heap.size, 0, none⟩ = some (.string (bstr x.site)) := d0
          have e1 : (w6.drewN nq).cell? ⟨wr.heap.size, 1, none⟩ = some (.string (bstr x.answer)) := d1
          have HO7 := Lib.hid (own_drewN HO6.out nq)
          have HB7 := Lib.hid (below_drewN HB6.out nq)
          clear d0 d1 HO6 HB6 HW6
          generalize w6.drewN nq = w7 at *
          by_cases hq : x.answer = right
          · have hb1 : ((bstr x.answer).toList == (bstr right).toList) = true := str_beq (by rw [hq])
            have hb2 : ((bstr x.answer).toList != (bstr right).toList) = false := by rw [bne, hb1]; rfl
            have HQ := Lib.hid hq
            clear hq
            go_wp2_with fail
            go_roundw
            case rel => exact ⟨m + 1 + 1, by omega, by go_num, F5.out, by rw [KT.out, if_pos HQ.out, List.append_nil, HN.out]; exact HO7.out, HB7.out⟩
            case measure => simp [intOf]; omega
          · have hb1 : ((bstr x.answer).toList == (bstr right).toList) = false := str_bne (fun e => hq (bstr_inj e))
            have hb2 : ((bstr x.answer).toList != (bstr right).toList) = true := by rw [bne, hb1]; rfl
            have HQ := Lib.hid hq
            clear hq
            go_wp2_with (at_builtin; refine app_str rfl (.tmp 62) (.tmp 65) rfl HO7.out HB7.out.size rfl rfl (by omega) ?_; intro g1 cc1 w9 HO9 HG9 HB9x HL9)
            go_roundw
            case rel => exact ⟨m + 1 + 1, by omega, by go_num, F5.out, by rw [KT.out, if_neg HQ.out, strs_app, List.length_append, HN.out]; exact HO9.out, HB9x.out _ HB7.out⟩
            case measure => simp [intOf]; omega
      · have hbe := bstr_some ha
        go_wp2_with fail
        refine (refIsDigest_any x.answer _ hz2).mono ?_
        rintro e w6 ⟨rfl, hb6⟩
        have HB6 := Lib.hid (HB5.out.trans (hb6.mono HB5.out.size))
        have HO6 := Lib.hid (own_below HO5.out hb6)
        have d0 : w6.cell? ⟨wr.heap.size, 0, none⟩ = some (.string (bstr x.site)) := (hb6.cell hsz5).trans h50
        have d1 : w6.cell? ⟨wr.heap.size, 1, none⟩ = some (.string (bstr x.answer)) := (hb6.cell hsz5).trans h51
        have HW6 := Lib.hid (HB1.out.trans (HB6.out.mono HB1.out.size))
        clear hb6 HB5 HO5 h50 h51 HW5
        cases hdg : isDig x.answer with
        | false =>
          have HP := Lib.hid (AnsPost.bad (w := w) (F2.out HNM.out ha hdg) (by decide) HW6.out)
          clear hdg ha
          go_wp2_with fail
          go_ret2
          exact HP.out
        | true =>
        have NB : Hid (¬ (x.answer ≠ [] ∧ isDig x.answer = false)) := Lib.hid (fun h => by rw [hdg] at h; exact absurd h.2 (by decide))
        clear ha hdg F2
        by_cases hk0 : k = 0
        · have F5 := Lib.hid (F4.out HNM.out NB.out (fun h => absurd h.1 (by omega)))
          have hk0' : ¬ (0 : Int) < (k : Int) := by omega
          have hk0n : ¬ 0 < k := by omega
          clear F3 F4 NB HNM hk0
          go_wp2_with fail
          go_quiet (fail)
          have e0 : (w6.drewN nq).cell? ⟨wr.heap.size, 0, none⟩ = some (.string (bstr x.site)) := d0
          have e1 : (w6.drewN nq).cell? ⟨wr.heap.size, 1, none⟩ = some (.string (bstr x.answer)) := d1
          have HO7 := Lib.hid (own_drewN HO6.out nq)
          have HB7 := Lib.hid (below_drewN HB6.out nq)
          clear d0 d1 HO6 HB6 HW6
          generalize w6.drewN nq = w7 at *
          by_cases hq : x.answer = right
          · have hb1 : ((bstr x.answer).toList == (bstr right).toList) = true := str_beq (by rw [hq])
            have hb2 : ((bstr x.answer).toList != (bstr right).toList) = false := by rw [bne, hb1]; rfl
            have HQ := Lib.hid hq
            clear hq
            go_wp2_with fail
            go_roundw
            case rel => exact ⟨k + 1, by omega, by go_num, F5.out, by rw [KT.out, if_pos HQ.out, List.append_nil, HN.out]; exact HO7.out, HB7.out⟩
            case measure => simp [intOf]; omega
          · have hb1 : ((bstr x.answer).toList == (bstr right).toList) = false := str_bne (fun e => hq (bstr_inj e))
            have hb2 : ((bstr x.answer).toList != (bstr right).toList) = true := by rw [bne, hb1]; rfl
            have HQ := Lib.hid hq
            clear hq
            go_wp2_with (at_builtin; refine app_str rfl (.tmp 62) (.tmp 65) rfl HO7.out HB7.out.size rfl rfl (by omega) ?_; intro g1 cc1 w9 HO9 HG9 HB9x HL9)
            go_roundw
            case rel => exact ⟨k + 1, by omega, by go_num, F5.out, by rw [KT.out, if_neg HQ.out, strs_app, List.length_append, HN.out]; exact HO9.out, HB9x.out _ HB7.out⟩
            case measure => simp [intOf]; omega
        · obtain ⟨m, rfl⟩ : ∃ m, k = m + 1 := ⟨k - 1, by omega⟩
          have hm : m < l.length := by omega
          obtain ⟨ad', us, e1, _, _, hu, hcell⟩ := Rp.sl_at (Rp.below _ H1.out HB6.out) hm
          injection e1 with e1
          subst e1
          obtain ⟨rfl, hy1, hy2⟩ := rep_open hu
          have p0 := hcell 0 _ rfl
          rw [Nat.add_zero] at p0
          change World.cell? _ (ad.add (m * 2)) = some (.string (bstr l[m].site)) at p0
          simp only [Nat.add_sub_cancel] at F3 F4
          have F3' : sle x.site l[m].site = true → ansFault nonce right l = 8 := fun h => F3.out HNM.out NB.out (by omega) h
          have F4' : sle x.site l[m].site = false → ∀ j, j < m + 1 + 1 → ansF l j = 0 := fun h => F4.out HNM.out NB.out (fun e => by rw [h] at e; exact absurd e.2 (by decide))
          clear hcell hu F3 F4
          generalize l[m] = y at *
          have F3 := Lib.hid F3'
          have F4 := Lib.hid F4'
          clear F3' F4' NB HNM
          go_wp2_with fail
          have hk0' : (0 : Int) < (m : Int) + 1 := by omega
          have hkm : IntKind.i64.wrap ((m : Int) + 1 - 1) = m := by rw [Int.add_sub_cancel]; exact IntWalk.i64_in _ (by omega)
          have hm0 : (0 : Int) ≤ (m : Int) := by omega
          have hml : (m : Int) < (l.length : Int) := by omega
          go_quiet (fail)
          rw [sle_eq]
          clear hk0' hkm hm0 hml p0 hk0
          cases hs : sle x.site y.site with
          | true =>
            have HP := Lib.hid (AnsPost.bad (w := w) (F3.out hs) (by decide) (below_drewN HW6.out nq))
            clear hs
            go_wp2_with fail
            go_ret2
            exact HP.out
          | false =>
          have F5 := Lib.hid (F4.out hs)
          clear hs F3 F4
          have e0 : (w6.drewN nq).cell? ⟨wr.heap.size, 0, none⟩ = some (.string (bstr x.site)) := d0
          have e1 : (w6.drewN nq).cell? ⟨wr.heap.size, 1, none⟩ = some (.string (bstr x.answer)) := d1
          have HO7 := Lib.hid (own_drewN HO6.out nq)
          have HB7 := Lib.hid (below_drewN HB6.out nq)
          clear d0 d1 HO6 HB6 HW6
          generalize w6.drewN nq = w7 at *
          by_cases hq : x.answer = right
          · have hb1 : ((bstr x.answer).toList == (bstr right).toList) = true := str_beq (by rw [hq])
            have hb2 : ((bstr x.answer).toList != (bstr right).toList) = false := by rw [bne, hb1]; rfl
            have HQ := Lib.hid hq
            clear hq
            go_wp2_with fail
            go_roundw
            case rel => exact ⟨m + 1 + 1, by omega, by go_num, F5.out, by rw [KT.out, if_pos HQ.out, List.append_nil, HN.out]; exact HO7.out, HB7.out⟩
            case measure => simp [intOf]; omega
          · have hb1 : ((bstr x.answer).toList == (bstr right).toList) = false := str_bne (fun e => hq (bstr_inj e))
            have hb2 : ((bstr x.answer).toList != (bstr right).toList) = true := by rw [bne, hb1]; rfl
            have HQ := Lib.hid hq
            clear hq
            go_wp2_with (at_builtin; refine app_str rfl (.tmp 62) (.tmp 65) rfl HO7.out HB7.out.size rfl rfl (by omega) ?_; intro g1 cc1 w9 HO9 HG9 HB9x HL9)
            go_roundw
            case rel => exact ⟨m + 1 + 1, by omega, by go_num, F5.out, by rw [KT.out, if_neg HQ.out, strs_app, List.length_append, HN.out]; exact HO9.out, HB9x.out _ HB7.out⟩
            case measure => simp [intOf]; omega
    · obtain rfl : k = l.length := by omega
      rw [List.take_length] at HO
      have HF := Lib.hid (ansFault_ok (nonce := nonce) (right := right) HNN.out HRR.out h5 HS.out)
      have HW := Lib.hid (HB1.out.trans (HB.out.mono HB1.out.size))
      have hsz := fun s (hs : s ∈ ansKeep right l) => (show s.length ≤ maxLen by
        obtain ⟨r, hr, rfl⟩ := ansKeep_mem hs
        exact (rep_sizes H1.out r hr).1)
      have HR : Hid ((Rp.sl Rp.str).ok wr (· < wr.heap.size) [_] ((ansKeep right l).map bstr)) :=
        Lib.hid (Rp.str_own (n := (ansKeep right l).length) (B := w1.heap.size) (e := 9) (by rw [List.map_map]; exact HO.out) (fun x hx => by obtain ⟨s, hs, rfl⟩ := List.mem_map.1 hx; rw [bstr_size]; exact hsz s hs) (fun g hg => (HO.out.lt g hg).2))
      clear hsz
      go_wp2_with fail
      go_ret2
      exact AnsPost.good HF.out HR.out HW.out
end Go.Proofs.YtnnoolemmnailaaDoor
