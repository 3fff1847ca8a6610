/-
  'votes' and 'Votes' of both packages.
-/
import Derived.Test.YtpmonhilfpfiaaaGreatDoorProg
import Derived.Test.YtpmonhilfpfiaaaGreatDoorRefVote
import Derived.Test.YtpmonhilfpfiaaaGreatDoorList
namespace Go.Proofs.YtpmonhilfpfiaaaGreatDoor
open Go.RowKit
set_option linter.unusedVariables false
set_option linter.unusedSimpArgs false

def voteRp : Rp Vote := (Rp.pair Rp.str (Rp.pair Rp.str (Rp.pair (Rp.sl Rp.str) (Rp.sl Rp.str)))).via fun v => (bstr v.item, bstr v.digest, v.right.map bstr, v.wrong.map bstr)
theorem vote_mk {w : World} {S : Nat → Prop} {V : Vote} {v1 v2 : Value} (h1 : V.item.length ≤ maxLen) (h2 : V.digest.length ≤ maxLen) (h3 : (Rp.sl Rp.str).ok w S [v1] (V.right.map bstr)) (h4 : (Rp.sl Rp.str).ok w S [v2] (V.wrong.map bstr)) :
    voteRp.ok w S [.string (bstr V.item), .string (bstr V.digest), v1, v2] V :=
  ⟨[_], [_, _, _], rfl, ⟨rfl, h1⟩, ⟨[_], [_, _], rfl, ⟨rfl, h2⟩, ⟨[_], [_], rfl, h3, h4⟩⟩⟩
theorem vote_open {w : World} {S : Nat → Prop} {us : List Value} {V : Vote} (h : voteRp.ok w S us V) : ∃ v1 v2, us = [.string (bstr V.item), .string (bstr V.digest), v1, v2] ∧ V.item.length ≤ maxLen ∧ V.digest.length ≤ maxLen ∧ (Rp.sl Rp.str).ok w S [v1] (V.right.map bstr) ∧ (Rp.sl Rp.str).ok w S [v2] (V.wrong.map bstr) := by
  obtain ⟨_, _, rfl, ⟨rfl, h1⟩, ⟨_, _, rfl, ⟨rfl, h2⟩, ⟨_, _, rfl, h3, h4⟩⟩⟩ := h
  obtain ⟨v1, rfl⟩ := List.length_eq_one_iff.1 ((Rp.sl Rp.str).len h3)
  obtain ⟨v2, rfl⟩ := List.length_eq_one_iff.1 ((Rp.sl Rp.str).len h4)
  exact ⟨v1, v2, rfl, h1, h2, h3, h4⟩
theorem vote_info : (Tryz.prog.info? 45).map (fun i => (i.zero, i.size, i.bytes)) = some (some (.agg #[.string ⟨#[]⟩, .string ⟨#[]⟩, .slice none 0 0, .slice none 0 0]), 4, 80) := by kernel_rfl
/-- A part whose spare room is cut off. -/
theorem sl_cap {α : Type} {R : Rp α} {w : World} {S : Nat → Prop} {ad : Addr} {n c c' : Nat} {l : List α} (h : (Rp.sl R).ok w S [.slice (some ad) n c] l) (h1 : n ≤ c') (h2 : c' ≤ maxLen) : (Rp.sl R).ok w S [.slice (some ad) n c'] l := by
  obtain ⟨A', c'', e, hl, hm, h0, h3⟩ := h
  injection e with e; injection e with e1 e2 e3
  subst e1 e2 e3
  exact ⟨some ad, c', rfl, h1, h2, by simp, h3⟩
theorem held_sizes {w : World} {S : Nat → Prop} {v : Value} {l : List Held} (h : (Rp.sl heldRp).ok w S [v] l) : ∀ r ∈ l, r.item.length ≤ maxLen ∧ r.site.length ≤ maxLen ∧ r.digest.length ≤ maxLen := by
  intro r hr
  obtain ⟨k, hk, rfl⟩ := List.getElem_of_mem hr
  obtain ⟨A, cp, rfl, _⟩ := Rp.sl_open h
  obtain ⟨_, us, _, _, _, hu, _⟩ := Rp.sl_at h hk
  exact (held_open hu).2
theorem voteDig_size {s : List Site} {all : List Held} {n : Nat} : ∀ (l : List Held) (d : List UInt8), (∀ h ∈ l, h.digest.length ≤ n) → d.length ≤ n → (voteDigGo s all l d).length ≤ n
  | [], d, _, h => h
  | h :: l, d, hl, hd => by
    rw [voteDigGo]
    refine voteDig_size l _ (fun x hx => hl x (by simp [hx])) ?_
    split
    · exact hl h (by simp)
    · exact hd
theorem voteOf_sizes {s : List Site} {l : List Held} (h0 : l ≠ []) (h : ∀ r ∈ l, r.item.length ≤ maxLen ∧ r.site.length ≤ maxLen ∧ r.digest.length ≤ maxLen) :
    (voteOf s l).item.length ≤ maxLen ∧ (voteOf s l).digest.length ≤ maxLen ∧ (∀ x ∈ (voteOf s l).right, x.length ≤ maxLen) ∧ (∀ x ∈ (voteOf s l).wrong, x.length ≤ maxLen) := by
  refine ⟨?_, voteDig_size l [] (fun x hx => (h x hx).2.2) (Nat.zero_le _), fun x hx => ?_, fun x hx => ?_⟩
  · cases l with
    | nil => exact absurd rfl h0
    | cons a r => exact (h a (by simp)).1
  · obtain ⟨r, hr, rfl⟩ := sitesOf_mem hx
    exact (h r hr).2.1
  · obtain ⟨r, hr, rfl⟩ := sitesOf_mem hx
    exact (h r hr).2.1
theorem Drawn.cell {w w1 : World} (h : Drawn w w1) {p : Addr} {v : Value} (hc : w.cell? p = some v) : w1.cell? p = some v := by obtain ⟨n, rfl⟩ := h; exact hc
def VotesPost (s : List Site) (l : List Held) (w : World) (e : Ending) (w' : World) : Prop :=
  ∃ v, e = .returned v ∧ (Rp.sl voteRp).ok w' (· < w'.heap.size) [v] (votesOf s l) ∧ (votesOf s l).length ≤ l.length ∧ Below w.heap.size w w'
def votesTopL (s : List Site) (l : List Held) : List Vote := if copiesFault s l = 0 then votesOf s l else []
def VotesTop (s : List Site) (l : List Held) (w : World) (e : Ending) (w' : World) : Prop :=
  ∃ v, e = .returned (.tuple #[v, .int .i64 (copiesFault s l)]) ∧ (Rp.sl voteRp).ok w' (· < w'.heap.size) [v] (votesTopL s l) ∧ Below w.heap.size w w'
set_option maxRecDepth 100000 in
set_option maxHeartbeats 4000000 in
theorem votes_any (v0 : Value) (s : List Site) (v1 : Value) (l : List Held) (w : World) (h0 : (Rp.sl siteRp).ok w (· < w.heap.size) [v0] s) (h1 : (Rp.sl heldRp).ok w (· < w.heap.size) [v1] l) (hf : copiesFault s l = 0) :
    Calls Tryz.prog 23 #[v0, v1] w (VotesPost s l w) := by
  obtain ⟨A, c, rfl, hl, hc, _⟩ := Rp.sl_open h1
  have hcm := hc
  unfold maxLen at hc
  have hl3 : l.length ≤ 3000 := (copies_ok hf).2.1
  have H0 := Lib.hid h0
  have H1 := Lib.hid h1
  have HOK := Lib.hid (fun h => copies_VoteOk (s := s) (l := l) hf h)
  have HSZ := Lib.hid (held_sizes h1)
  have HCM := Lib.hid hcm
  clear h0 h1 hf hcm
  go_enter Tryz.func23, Tryz.ntmps23
  go_wp2_with fail
  go_loopw [5, 6] (fun vo vi wr => ∃ (i : Nat) (outs : List Vote), i ≤ l.length ∧ outs.length ≤ i ∧ vi = .int .i64 i ∧ Hid (Rows voteRp 45 w.heap.size wr vo outs) ∧ Hid (outs ++ votesOf s (l.drop i) = votesOf s l) ∧ Hid (Below w.heap.size w wr)) (fun _ vi _ => l.length - (intOf vi).toNat)
  case atStart => exact ⟨0, [], by omega, by simp, rfl, Rows.nil _ _ _ _, rfl, Below.refl _ _⟩
  case round =>
    obtain ⟨i, outs, hi, hoi, rfl, HO, HG, HB⟩ := hrel
    by_cases hlt : i < l.length
    · obtain ⟨ad, c', e1, hadb, q0, _, _, _, _, _⟩ := held_at (Rp.below _ H1.out HB.out) hlt
      injection e1 with e1 _ e3
      subst e1 e3
      have HO0 := HO
      have HB0 := HB
      obtain ⟨w0, hw0⟩ : ∃ w0, w0 = wr := ⟨_, rfl⟩
      have Q0 : Hid (w0.cell? (ad.add (i * 3)) = some (.string (bstr l[i].item))) := Lib.hid (by rw [hw0]; exact q0)
      rw [← hw0] at HO0 HB0
      clear HO HB q0
      obtain ⟨vo, hvo⟩ : ∃ vo, Hid (Rows voteRp 45 w.heap.size w0 vo outs) := ⟨_, HO0⟩
      clear hvo
      go_wp2_with fail
      rw [← hw0]
      clear hw0
      go_loopw [7] (fun vk wr => ∃ (k : Nat), i ≤ k ∧ k ≤ l.length ∧ vk = .int .i64 k ∧ Hid (∀ j, i ≤ j → j < k → ∀ hj : j < l.length, l[j].item = l[i].item) ∧ Hid (Drawn w0 wr)) (fun vk _ => l.length - (intOf vk).toNat)
      case atStart => exact ⟨i, by omega, hi, rfl, (fun j h1 h2 => by omega), Drawn.refl _⟩
      case round =>
        obtain ⟨k, hik, hk, rfl, HA, HD⟩ := hrel
        by_cases hkl : k < l.length
        · obtain ⟨ad', c', e1, _, c0, _, _, _, _, _⟩ := held_at (Rp.drawn _ (Rp.below _ H1.out HB0.out) HD.out) hkl
          injection e1 with e1 _ e3
          injection e1 with e1
          subst e1 e3
          have d0 := HD.out.cell Q0.out
          by_cases hq : l[k].item = l[i].item
          · have hb1 : ((bstr l[k].item).toList == (bstr l[i].item).toList) = true := str_beq (by rw [hq])
            have HA2 : Hid (∀ j, i ≤ j → j < k + 1 → ∀ hj : j < l.length, l[j].item = l[i].item) := Lib.hid (fun j h1 h2 hj => by
              by_cases hjk : j = k
              · subst hjk; exact hq
              · exact HA.out j h1 (by omega) hj)
            clear hq HA
            have p1 : (0 : Int) ≤ k ∧ (k : Int) < l.length := by omega
            have p2 : (0 : Int) ≤ i ∧ (i : Int) < l.length := by omega
            go_wp2_with fail
            go_quiet (fail)
            go_wp2_with fail
            go_roundw
            case rel => exact ⟨k + 1, by omega, by omega, by go_num, HA2.out, HD.out.more _⟩
            case measure => simp [intOf]; omega
          · have hb1 : ((bstr l[k].item).toList == (bstr l[i].item).toList) = false := str_bne (fun e => hq (bstr_inj e))
            have hik' : i < k := by rcases Nat.lt_or_ge i k with h | h; exact h; exact absurd (by obtain rfl : k = i := (by omega); rfl) hq
            have HST := Lib.hid (votesOf_step (s := s) hlt hik' hk HA.out (fun _ => hq))
            clear hq HA
            have p1 : (0 : Int) ≤ k ∧ (k : Int) < l.length := by omega
            have p2 : (0 : Int) ≤ i ∧ (i : Int) < l.length := by omega
            go_wp2_with fail
            go_quiet (fail)
            have HDX := Lib.hid (HD.out.more nq)
            have hl0 : l ≠ [] := fun e => by rw [e] at hlt; simp at hlt
            have hpl : ((l.drop i).take (k - i)).length = k - i := by rw [List.length_take, List.length_drop]; omega
            have hok := (HOK.out hl0).part (m := (l.drop i).take (k - i)) (fun x hx => List.mem_of_mem_drop (List.mem_of_mem_take hx)) (fun e => by rw [e] at hpl; simp at hpl; omega) (by omega)
            have hvs := voteOf_sizes (s := s) (l := (l.drop i).take (k - i)) (fun e => by rw [e] at hpl; simp at hpl; omega) (fun r hr => HSZ.out r (List.mem_of_mem_drop (List.mem_of_mem_take hr)))
            have HVS := Lib.hid hvs
            have HOKP := Lib.hid hok
            have hsz7 := HDX.out.size
            have HBW := Lib.hid (HDX.out.below HB0.out)
            have HS7 := Lib.hid (Rp.drawn _ (Rp.below _ H0.out HB0.out) HDX.out)
            have HR7 := Lib.hid (sl_cap (Rp.sl_cut (Rp.drawn _ (Rp.below _ H1.out HB0.out) HDX.out) hik' hk) (show k - i ≤ (k - i) by omega) (by have := HCM.out; unfold maxLen at this ⊢; omega))
            obtain ⟨A5, c5, rfl, hn5, hc5, hown5⟩ := HO0.out.form
            obtain ⟨xs, hown, hpush⟩ := HO0.out.open_ (by decide)
            have HOWN := Lib.hid hown5
            have HO := Lib.hid hown
            have HPU := Lib.hid hpush
            have hwsz := HB0.out.size
            have hGG := HG.out
            rw [HST.out] at hGG
            have HGG := Lib.hid hGG
            generalize hpart : (l.drop i).take (k - i) = part at *
            have HPART := Lib.hid hpart
            clear hl0 hok hvs hown5 hown hpush hGG hpart HG
            go_wp2_with fail
            refine (vote_any v0 s _ part _ (Rp.sub _ HS7.out (fun g hg => by have hg : g < w.heap.size := hg; show g < (wr.drewN nq).heap.size; omega)) (Rp.sub _ HR7.out (fun g hg => by have hg : g < w.heap.size := hg; show g < (wr.drewN nq).heap.size; omega)) HOKP.out).mono ?_
            rintro e w7 ⟨vr, vw, rfl, hvr, hvw, hb7⟩
            have HBQ : Hid (Below w0.heap.size w0 w7) := Lib.hid ((HDX.out.below (Below.refl w0.heap.size w0)).trans (hb7.mono (by rw [hsz7]; exact Nat.le_refl _)))
            have HBX := Lib.hid (HB0.out.trans (HBQ.out.mono HB0.out.size))
            have HO7 := Lib.hid (HO.out.kept (below_grown HBQ.out) (by cases hvv : (Value.slice A5 outs.length c5).ownBlock <;> simp))
            have hs7 := HBX.out.size
            have HVV := Lib.hid (vote_mk (V := voteOf s part) (w := w7) (S := fun b => b < w7.heap.size ∧ (Value.slice A5 outs.length c5).ownBlock ≠ some b) HVS.out.1 HVS.out.2.1
              (Rp.str_own (l := (voteOf s part).right.map bstr) (by rw [List.map_map]; exact hvr) (fun x hx => by obtain ⟨y, hy, rfl⟩ := List.mem_map.1 hx; rw [bstr_size]; exact HVS.out.2.2.1 y hy) (fun g hg => ⟨(hvr.lt g hg).2, fun e => by have h1 := (HOWN.out g e).2; have h2 := (hvr.lt g hg).1; have h3 : (wr.drewN nq).heap.size = w0.heap.size := hsz7; omega⟩))
              (Rp.str_own (l := (voteOf s part).wrong.map bstr) (by rw [List.map_map]; exact hvw) (fun x hx => by obtain ⟨y, hy, rfl⟩ := List.mem_map.1 hx; rw [bstr_size]; exact HVS.out.2.2.2 y hy) (fun g hg => ⟨(hvw.lt g hg).2, fun e => by have h1 := (HOWN.out g e).2; have h2 := (hvw.lt g hg).1; have h3 : (wr.drewN nq).heap.size = w0.heap.size := hsz7; omega⟩)))
            obtain ⟨A7, c7, rfl, _⟩ := own_form hvr
            obtain ⟨A8, c8, rfl, _⟩ := own_form hvw
            clear hvr hvw hb7
            go_wp2_with (at_builtin; refine app_new (w := w7) rfl (.tmp 32) (.tmp 40) 40 rfl 45 (.agg #[.string ⟨#[]⟩, .string ⟨#[]⟩, .slice none 0 0, .slice none 0 0]) 4 80 Tryz.underlying40 vote_info rfl (by decide) (m := 1) [.string (bstr (voteOf s part).item), .string (bstr (voteOf s part).digest), .slice A7 (voteOf s part).right.length c7, .slice A8 (voteOf s part).wrong.length c8] HO7.out hs7 rfl rfl rfl (by decide) (by simp [Value.oneCell']) (by unfold maxLen; omega) (by omega) ?_; intro g1 cc1 w8 HO8 HG8 HB8 HL8)
            go_roundw
            case rel =>
              refine ⟨k, outs ++ [voteOf s part], hk, by rw [List.length_append, List.length_singleton]; omega, rfl, ?_, by rw [List.append_assoc, List.singleton_append]; exact HGG.out, HB8.out _ HBX.out⟩
              exact HPU.out w7 w8 g1 cc1 _ _ (below_grown HBQ.out) HVV.out HG8.out HO8.out HL8.out
            case measure => simp [intOf]; omega
        · have hik' : i < k := by omega
          have HST := Lib.hid (votesOf_step (s := s) hlt hik' hk HA.out (fun h => absurd h hkl))
          clear HA
          have p1 : ¬ (k : Int) < l.length := by omega
          go_wp2_with fail
          go_quiet (fail)
          have HDX := Lib.hid (HD.out.more nq)
          have hl0 : l ≠ [] := fun e => by rw [e] at hlt; simp at hlt
          have hpl : ((l.drop i).take (k - i)).length = k - i := by rw [List.length_take, List.length_drop]; omega
          have hok := (HOK.out hl0).part (m := (l.drop i).take (k - i)) (fun x hx => List.mem_of_mem_drop (List.mem_of_mem_take hx)) (fun e => by rw [e] at hpl; simp at hpl; omega) (by omega)
          have hvs := voteOf_sizes (s := s) (l := (l.drop i).take (k - i)) (fun e => by rw [e] at hpl; simp at hpl; omega) (fun r hr => HSZ.out r (List.mem_of_mem_drop (List.mem_of_mem_take hr)))
          have HVS := Lib.hid hvs
          have HOKP := Lib.hid hok
          have hsz7 := HDX.out.size
          have HBW := Lib.hid (HDX.out.below HB0.out)
          have HS7 := Lib.hid (Rp.drawn _ (Rp.below _ H0.out HB0.out) HDX.out)
          have HR7 := Lib.hid (sl_cap (Rp.sl_cut (Rp.drawn _ (Rp.below _ H1.out HB0.out) HDX.out) hik' hk) (show k - i ≤ (k - i) by omega) (by have := HCM.out; unfold maxLen at this ⊢; omega))
          obtain ⟨A5, c5, rfl, hn5, hc5, hown5⟩ := HO0.out.form
          obtain ⟨xs, hown, hpush⟩ := HO0.out.open_ (by decide)
          have HOWN := Lib.hid hown5
          have HO := Lib.hid hown
          have HPU := Lib.hid hpush
          have hwsz := HB0.out.size
          have hGG := HG.out
          rw [HST.out] at hGG
          have HGG := Lib.hid hGG
          generalize hpart : (l.drop i).take (k - i) = part at *
          have HPART := Lib.hid hpart
          clear hl0 hok hvs hown5 hown hpush hGG hpart HG
          go_wp2_with fail
          refine (vote_any v0 s _ part _ (Rp.sub _ HS7.out (fun g hg => by have hg : g < w.heap.size := hg; show g < (wr.drewN nq).heap.size; omega)) (Rp.sub _ HR7.out (fun g hg => by have hg : g < w.heap.size := hg; show g < (wr.drewN nq).heap.size; omega)) HOKP.out).mono ?_
          rintro e w7 ⟨vr, vw, rfl, hvr, hvw, hb7⟩
          have HBQ : Hid (Below w0.heap.size w0 w7) := Lib.hid ((HDX.out.below (Below.refl w0.heap.size w0)).trans (hb7.mono (by rw [hsz7]; exact Nat.le_refl _)))
          have HBX := Lib.hid (HB0.out.trans (HBQ.out.mono HB0.out.size))
          have HO7 := Lib.hid (HO.out.kept (below_grown HBQ.out) (by cases hvv : (Value.slice A5 outs.length c5).ownBlock <;> simp))
          have hs7 := HBX.out.size
          have HVV := Lib.hid (vote_mk (V := voteOf s part) (w := w7) (S := fun b => b < w7.heap.size ∧ (Value.slice A5 outs.length c5).ownBlock ≠ some b) HVS.out.1 HVS.out.2.1
            (Rp.str_own (l := (voteOf s part).right.map bstr) (by rw [List.map_map]; exact hvr) (fun x hx => by obtain ⟨y, hy, rfl⟩ := List.mem_map.1 hx; rw [bstr_size]; exact HVS.out.2.2.1 y hy) (fun g hg => ⟨(hvr.lt g hg).2, fun e => by have h1 := (HOWN.out g e).2; have h2 := (hvr.lt g hg).1; have h3 : (wr.drewN nq).heap.size = w0.heap.size := hsz7; omega⟩))
            (Rp.str_own (l := (voteOf s part).wrong.map bstr) (by rw [List.map_map]; exact hvw) (fun x hx => by obtain ⟨y, hy, rfl⟩ := List.mem_map.1 hx; rw [bstr_size]; exact HVS.out.2.2.2 y hy) (fun g hg => ⟨(hvw.lt g hg).2, fun e => by have h1 := (HOWN.out g e).2; have h2 := (hvw.lt g hg).1; have h3 : (wr.drewN nq).heap.size = w0.heap.size := hsz7; omega⟩)))
          obtain ⟨A7, c7, rfl, _⟩ := own_form hvr
          obtain ⟨A8, c8, rfl, _⟩ := own_form hvw
          clear hvr hvw hb7
          go_wp2_with (at_builtin; refine app_new (w := w7) rfl (.tmp 32) (.tmp 40) 40 rfl 45 (.agg #[.string ⟨#[]⟩, .string ⟨#[]⟩, .slice none 0 0, .slice none 0 0]) 4 80 Tryz.underlying40 vote_info rfl (by decide) (m := 1) [.string (bstr (voteOf s part).item), .string (bstr (voteOf s part).digest), .slice A7 (voteOf s part).right.length c7, .slice A8 (voteOf s part).wrong.length c8] HO7.out hs7 rfl rfl rfl (by decide) (by simp [Value.oneCell']) (by unfold maxLen; omega) (by omega) ?_; intro g1 cc1 w8 HO8 HG8 HB8 HL8)
          go_roundw
          case rel =>
            refine ⟨k, outs ++ [voteOf s part], hk, by rw [List.length_append, List.length_singleton]; omega, rfl, ?_, by rw [List.append_assoc, List.singleton_append]; exact HGG.out, HB8.out _ HBX.out⟩
            exact HPU.out w7 w8 g1 cc1 _ _ (below_grown HBQ.out) HVV.out HG8.out HO8.out HL8.out
          case measure => simp [intOf]; omega
    · obtain rfl : i = l.length := by omega
      have hG := HG.out
      rw [List.drop_length, votesOf_nil, List.append_nil] at hG
      subst hG
      obtain ⟨A5, c5, rfl, _⟩ := HO.out.form
      have HP := Lib.hid (show VotesPost s l w (.returned (.slice A5 (votesOf s l).length c5)) wr from ⟨_, rfl, HO.out.read (by decide), hoi, HB.out⟩)
      go_wp2
      go_ret
      exact HP.out
end Go.Proofs.YtpmonhilfpfiaaaGreatDoor
