/-
  'Votes', 'Weakest' of both packages of chapter 11, SameVotes.
-/
import Derived.Test.YtnnoolemmnailaaDoorProg
import Derived.Test.YtnnoolemmnailaaDoorVotes
import Derived.Test.YtnnoolemmnailaaDoorEqS
import Derived.Deep.QuietTactic
import Derived.BigQuiet
namespace Go.Proofs.YtnnoolemmnailaaDoor
open Go.RowKit
set_option linter.unusedVariables false
set_option linter.unusedSimpArgs false

def weakStep (st : List (List UInt8) × Int) (v : Vote) : List (List UInt8) × Int :=
  if st.1 = [] ∨ (v.right.length : Int) < st.2 then ([v.item], (v.right.length : Int)) else if (v.right.length : Int) = st.2 then (st.1 ++ [v.item], st.2) else st
def weakOf (l : List Vote) : List (List UInt8) × Int := l.foldl weakStep ([], 0)
theorem weakOf_take (l : List Vote) (k : Nat) (h : k < l.length) : weakOf (l.take (k + 1)) = weakStep (weakOf (l.take k)) l[k] := by
  rw [List.take_succ_eq_append_getElem h, weakOf, List.foldl_append]; rfl
theorem weakStep_new {st : List (List UInt8) × Int} {v : Vote} (h : st.1 = [] ∨ (v.right.length : Int) < st.2) : weakStep st v = ([v.item], (v.right.length : Int)) := by rw [weakStep, if_pos h]
theorem weakStep_more {st : List (List UInt8) × Int} {v : Vote} (h : st.1 ≠ []) (h2 : (v.right.length : Int) = st.2) : weakStep st v = (st.1 ++ [v.item], st.2) := by
  rw [weakStep, if_neg (by rintro (q | q); exact h q; omega), if_pos h2]
theorem weakStep_no {st : List (List UInt8) × Int} {v : Vote} (h : st.1 ≠ []) (h2 : st.2 < (v.right.length : Int)) : weakStep st v = st := by
  rw [weakStep, if_neg (by rintro (q | q); exact h q; omega), if_neg (by omega)]
theorem weakStep_len (st : List (List UInt8) × Int) (v : Vote) : (weakStep st v).1.length ≤ st.1.length + 1 := by
  unfold weakStep; split
  · simp
  · split <;> simp
theorem weakOf_len (l : List Vote) : ∀ k, k ≤ l.length → (weakOf (l.take k)).1.length ≤ k
  | 0, _ => by simp [weakOf]
  | k + 1, h => by rw [weakOf_take l k (by omega)]; have := weakStep_len (weakOf (l.take k)) l[k]; have := weakOf_len l k (by omega); omega
theorem weakStep_items {st : List (List UInt8) × Int} {v : Vote} {n : Nat} (h : ∀ x ∈ st.1, x.length ≤ n) (hv : v.item.length ≤ n) : ∀ x ∈ (weakStep st v).1, x.length ≤ n := by
  unfold weakStep; split
  · intro x hx; simp at hx; rw [hx]; exact hv
  · split
    · intro x hx
      rcases List.mem_append.1 hx with hx | hx
      · exact h x hx
      · simp at hx; rw [hx]; exact hv
    · exact h
theorem votes_at {w : World} {S : Nat → Prop} {v : Value} {l : List Vote} (h : (Rp.sl voteRp).ok w S [v] l) {k : Nat} (hk : k < l.length) :
    ∃ ad c v1 v2, v = .slice (some ad) l.length c ∧ S ad.block ∧ w.cell? (ad.add (k * 4)) = some (.string (bstr l[k].item)) ∧ w.cell? ⟨(ad.add (k * 4)).block, (ad.add (k * 4)).off + 1, none⟩ = some (.string (bstr l[k].digest)) ∧
      w.cell? ⟨(ad.add (k * 4)).block, (ad.add (k * 4)).off + 2, none⟩ = some v1 ∧ w.cell? ⟨(ad.add (k * 4)).block, (ad.add (k * 4)).off + 3, none⟩ = some v2 ∧ l[k].item.length ≤ maxLen ∧ l[k].digest.length ≤ maxLen ∧
      (Rp.sl Rp.str).ok w S [v1] (l[k].right.map bstr) ∧ (Rp.sl Rp.str).ok w S [v2] (l[k].wrong.map bstr) := by
  obtain ⟨A, c, rfl, _⟩ := Rp.sl_open h
  obtain ⟨ad, us, rfl, _, hb, hu, hcell⟩ := Rp.sl_at h hk
  obtain ⟨v1, v2, rfl, hz1, hz2, hr, hw⟩ := vote_open hu
  have c0 := hcell 0 _ rfl
  have c1 := hcell 1 _ rfl
  have c2 := hcell 2 _ rfl
  have c3 := hcell 3 _ rfl
  rw [add_fld _ _ _ (by omega)] at c1 c2 c3
  exact ⟨ad, c, v1, v2, rfl, hb, c0, c1, c2, c3, hz1, hz2, hr, hw⟩
def weakTop (s : List Site) (l : List Held) : List (List UInt8) × Int := if copiesFault s l = 0 then weakOf (votesOf s l) else ([], 0)
def WeakPost (s : List Site) (l : List Held) (w : World) (e : Ending) (w' : World) : Prop :=
  ∃ v, e = .returned (.tuple #[v, .int .i64 (weakTop s l).2, .int .i64 (copiesFault s l)]) ∧ (Rp.sl Rp.str).ok w' (· < w'.heap.size) [v] ((weakTop s l).1.map bstr) ∧ Below w.heap.size w w'
theorem strs_map (l : List (List UInt8)) : strs l = (l.map bstr).map .string := by rw [List.map_map]; rfl
set_option maxRecDepth 100000 in
set_option maxHeartbeats 4000000 in
theorem votesTop_any (v0 : Value) (s : List Site) (v1 : Value) (l : List Held) (w : World) (h0 : (Rp.sl siteRp).ok w (· < w.heap.size) [v0] s) (h1 : (Rp.sl heldRp).ok w (· < w.heap.size) [v1] l) :
    Calls Tryd.prog 32 #[v0, v1] w (VotesTop s l w) := by
  have H0 := Lib.hid h0
  have H1 := Lib.hid h1
  clear h0 h1
  go_enter Tryd.func32, Tryd.ntmps32
  go_wp2_with fail
  refine (checkCopies_any v0 s v1 l w H0.out H1.out).mono ?_
  rintro e w1 ⟨rfl, hb1⟩
  have HB1 := Lib.hid hb1
  clear hb1
  by_cases hf : copiesFault s l = 0
  · rw [hf]
    have HF := Lib.hid hf
    clear hf
    go_wp2_with fail
    refine (votes_any v0 s v1 l w1 (Rp.ext _ H0.out HB1.out) (Rp.ext _ H1.out HB1.out) HF.out).mono ?_
    rintro e w2 ⟨v, rfl, hv, hn, hb2⟩
    have HP := Lib.hid (show VotesTop s l w (.returned (.tuple #[v, .int .i64 0])) w2 from ⟨_, by rw [HF.out], by rw [votesTopL, if_pos HF.out]; exact hv, HB1.out.trans (hb2.mono HB1.out.size)⟩)
    clear hv hb2 hn
    go_wp2
    go_ret2
    exact HP.out
  · have HP := Lib.hid (show VotesTop s l w (.returned (.tuple #[.slice none 0 0, .int .i64 (copiesFault s l)])) w1 from ⟨_, rfl, by rw [votesTopL, if_neg hf]; exact Rp.sl_nil _ _ _, HB1.out⟩)
    generalize copiesFault s l = f at *
    go_wp2_with fail
    go_ret2
    exact HP.out
set_option maxRecDepth 100000 in
set_option maxHeartbeats 4000000 in
theorem weakest_any (v0 : Value) (s : List Site) (v1 : Value) (l : List Held) (w : World) (h0 : (Rp.sl siteRp).ok w (· < w.heap.size) [v0] s) (h1 : (Rp.sl heldRp).ok w (· < w.heap.size) [v1] l) :
    Calls Tryd.prog 41 #[v0, v1] w (WeakPost s l w) := by
  have H0 := Lib.hid h0
  have H1 := Lib.hid h1
  clear h0 h1
  go_enter Tryd.func41, Tryd.ntmps41
  go_wp2_with fail
  refine (checkCopies_any v0 s v1 l w H0.out H1.out).mono ?_
  rintro e w1 ⟨rfl, hb1⟩
  have HB1 := Lib.hid hb1
  clear hb1
  by_cases hf : copiesFault s l = 0
  · rw [hf]
    have HF := Lib.hid hf
    clear hf
    go_wp2_with fail
    refine (votes_any v0 s v1 l w1 (Rp.ext _ H0.out HB1.out) (Rp.ext _ H1.out HB1.out) HF.out).mono ?_
    rintro e w2 ⟨v, rfl, hv, hn, hb2⟩
    have HB2 := Lib.hid (HB1.out.trans (hb2.mono HB1.out.size))
    have HV := Lib.hid hv
    have hl3 := (copies_ok HF.out).2.1
    clear hb2
    have HW0 := Lib.hid (show weakTop s l = weakOf (votesOf s l) by rw [weakTop, if_pos HF.out])
    obtain ⟨V, hV⟩ : ∃ V, votesOf s l = V := ⟨_, rfl⟩
    rw [hV] at HV HW0 hn hv
    clear hV
    obtain ⟨A, c, rfl, hl, hc, _⟩ := Rp.sl_open hv
    unfold maxLen at hc
    clear hv
    go_wp2_with fail
    go_loopw [8, 9, 23] (fun vo vn vi wr => ∃ k : Nat, k ≤ V.length ∧ vi = .int .i64 k ∧ vn = .int .i64 (weakOf (V.take k)).2 ∧ Hid (wr.ownsRow w2.heap.size 9 1 vo (weakOf (V.take k)).1.length (strs (weakOf (V.take k)).1)) ∧ Hid (∀ x ∈ (weakOf (V.take k)).1, x.length ≤ maxLen) ∧ Hid (Below w2.heap.size w2 wr)) (fun _ _ vi _ => V.length - (intOf vi).toNat)
    case atStart => exact ⟨0, by omega, rfl, rfl, World.ownsRow_nil _ _ _ _, (fun x hx => by simp [weakOf] at hx), Below.refl _ _⟩
    case round =>
      obtain ⟨k, hk, rfl, rfl, HO, HZ, HB3⟩ := hrel
      have hwsz := HB3.out.size
      by_cases hlt : k < V.length
      · obtain ⟨ad, c', x1, x2, e1, _, c0, c1, c2, c3, hz1, hz2, hr, hwr⟩ := votes_at (Rp.below _ HV.out HB3.out) hlt
        injection e1 with e1 _ e3
        subst e1 e3
        obtain ⟨A3, c3', rfl, hl3', hc3, _⟩ := Rp.sl_open hr
        obtain ⟨A4, c4', rfl, hl4', hc4, _⟩ := Rp.sl_open hwr
        rw [List.length_map] at *
        unfold maxLen at hc3
        have hwl := weakOf_len V k hk
        have HST := Lib.hid (weakOf_take V k hlt)
        have HZ2 := Lib.hid (weakStep_items (v := V[k]) HZ.out hz1)
        rw [← HST.out] at HZ2
        clear hr hwr HZ
        generalize V[k] = x at *
        generalize weakOf (V.take k) = st at *
        obtain ⟨A5, c5, rfl, _⟩ := own_form HO.out
        have hkb := Blk.new wr 60 [.string (bstr x.item), .string (bstr x.digest), .slice A3 x.right.length c3', (.slice A4 x.wrong.length c4')]
        have d0 : _ = some (Value.string (bstr x.item)) := hkb.cell 0
        have d2 : _ = some (Value.slice A3 x.right.length c3') := hkb.cell 2
        have hbw := (Below.refl wr.heap.size wr).alloc (Nat.le_refl _) (.cells #[.string (bstr x.item), .string (bstr x.digest), .slice A3 x.right.length c3', (.slice A4 x.wrong.length c4')] 60)
        have HBA3 := Lib.hid (HB3.out.alloc HB3.out.size (.cells #[.string (bstr x.item), .string (bstr x.digest), .slice A3 x.right.length c3', (.slice A4 x.wrong.length c4')] 60))
        have HOA := Lib.hid (HO.out.kept (below_grown hbw) (by cases hvv : (Value.slice A5 st.1.length c5).ownBlock <;> simp))
        have HOZ := Lib.hid (World.ownsRow_nil (wr.alloc (.cells #[.string (bstr x.item), .string (bstr x.digest), .slice A3 x.right.length c3', (.slice A4 x.wrong.length c4')] 60)) w2.heap.size 9 1)
        have hsza : w2.heap.size ≤ (wr.alloc (.cells #[.string (bstr x.item), .string (bstr x.digest), .slice A3 x.right.length c3', (.slice A4 x.wrong.length c4')] 60)).heap.size := HBA3.out.size
        clear hkb hbw HO
        have B9 : ∀ {w9 : World}, (wr.alloc (.cells #[.string (bstr x.item), .string (bstr x.digest), .slice A3 x.right.length c3', (.slice A4 x.wrong.length c4')] 60)).grownBy w9 none → True := fun _ => trivial
        clear B9
        by_cases q1 : st.1 = []
        · have HNX := Lib.hid (weakStep_new (v := x) (.inl q1))
          have HQ := Lib.hid q1
          have hz : st.1.length = 0 := by rw [q1]; rfl
          rw [hz] at HOA ⊢
          clear q1
          go_wp2_with (at_builtin; refine app_str rfl (.tmp 42) (.tmp 45) rfl HOZ.out hsza rfl (by rw [World.size_alloc]; rfl) (by omega) ?_; intro g1 cc1 w9 HO9 HG9 HB9 HL9)
          go_roundw
          case rel =>
            exact ⟨k + 1, by omega, by go_num, by rw [HST.out, HNX.out], by rw [HST.out, HNX.out]; exact HO9.out, HZ2.out, HB9.out _ HBA3.out⟩
          case measure => simp [intOf]; omega
        · by_cases q2 : (x.right.length : Int) < st.2
          · have HNX := Lib.hid (weakStep_new (v := x) (.inr q2))
            have hz : ((st.1.length : Int) == 0) = false := by have := List.length_pos_iff.2 q1; rw [beq_eq_false_iff_ne]; omega
            clear q1
            go_wp2_with (at_builtin; refine app_str rfl (.tmp 42) (.tmp 45) rfl HOZ.out hsza rfl (by rw [World.size_alloc]; rfl) (by omega) ?_; intro g1 cc1 w9 HO9 HG9 HB9 HL9)
            go_roundw
            case rel =>
              exact ⟨k + 1, by omega, by go_num, by rw [HST.out, HNX.out], by rw [HST.out, HNX.out]; exact HO9.out, HZ2.out, HB9.out _ HBA3.out⟩
            case measure => simp [intOf]; omega
          · by_cases q3 : (x.right.length : Int) = st.2
            · have HNX := Lib.hid (weakStep_more (v := x) q1 q3)
              have hz : ((st.1.length : Int) == 0) = false := by have := List.length_pos_iff.2 q1; rw [beq_eq_false_iff_ne]; omega
              clear q1
              go_wp2_with (at_builtin; refine app_str rfl (.tmp 42) (.tmp 45) rfl HOA.out hsza rfl (by rw [World.size_alloc]; rfl) (by omega) ?_; intro g1 cc1 w9 HO9 HG9 HB9 HL9)
              go_roundw
              case rel =>
                exact ⟨k + 1, by omega, by go_num, by rw [HST.out, HNX.out], by rw [HST.out, HNX.out]; rw [strs_app, List.length_append]; exact HO9.out, HZ2.out, HB9.out _ HBA3.out⟩
              case measure => simp [intOf]; omega
            · have HNX := Lib.hid (weakStep_no (v := x) q1 (by omega))
              have hz : ((st.1.length : Int) == 0) = false := by have := List.length_pos_iff.2 q1; rw [beq_eq_false_iff_ne]; omega
              clear q1
              go_wp2_with fail
              go_roundw
              case rel =>
                exact ⟨k + 1, by omega, by go_num, by rw [HST.out, HNX.out], by rw [HST.out, HNX.out]; exact HOA.out, HZ2.out, HBA3.out⟩
              case measure => simp [intOf]; omega
      · obtain rfl : k = V.length := by omega
        rw [List.take_length] at *
        obtain ⟨A5, c5, rfl, _⟩ := own_form HO.out
        have HP := Lib.hid (show WeakPost s l w (.returned (.tuple #[.slice A5 (weakOf V).1.length c5, .int .i64 (weakOf V).2, .int .i64 0])) wr from
          ⟨_, by rw [HF.out, HW0.out], by rw [HW0.out]; exact Rp.str_own (by rw [← strs_map]; exact HO.out) (fun x hx => by obtain ⟨y, hy, rfl⟩ := List.mem_map.1 hx; rw [bstr_size]; exact HZ.out y hy) (fun g hg => (HO.out.lt g hg).2), HB2.out.trans (HB3.out.mono HB2.out.size)⟩)
        clear HO HZ
        go_wp2_with fail
        go_ret3
        exact HP.out
  · have HP := Lib.hid (show WeakPost s l w (.returned (.tuple #[.slice none 0 0, .int .i64 0, .int .i64 (copiesFault s l)])) w1 from ⟨_, by rw [weakTop, if_neg hf], by rw [weakTop, if_neg hf]; exact Rp.sl_nil _ _ _, HB1.out⟩)
    generalize copiesFault s l = f at *
    go_wp2_with fail
    go_ret3
    exact HP.out
set_option maxRecDepth 100000 in
set_option maxHeartbeats 4000000 in
theorem votesTopRef_any (v0 : Value) (s : List Site) (v1 : Value) (l : List Held) (w : World) (h0 : (Rp.sl siteRp).ok w (· < w.heap.size) [v0] s) (h1 : (Rp.sl heldRp).ok w (· < w.heap.size) [v1] l) :
    Calls Tryd.prog 35 #[v0, v1] w (VotesTop s l w) := by
  have H0 := Lib.hid h0
  have H1 := Lib.hid h1
  clear h0 h1
  go_enter Tryd.func35, Tryd.ntmps35
  go_wp2_with fail
  refine (refCheckCopies_any v0 s v1 l w H0.out H1.out).mono ?_
  rintro e w1 ⟨rfl, hb1⟩
  have HB1 := Lib.hid hb1
  clear hb1
  by_cases hf : copiesFault s l = 0
  · rw [hf]
    have HF := Lib.hid hf
    clear hf
    go_wp2_with fail
    refine (refVotes_any v0 s v1 l w1 (Rp.ext _ H0.out HB1.out) (Rp.ext _ H1.out HB1.out) HF.out).mono ?_
    rintro e w2 ⟨v, rfl, hv, hn, hb2⟩
    have HP := Lib.hid (show VotesTop s l w (.returned (.tuple #[v, .int .i64 0])) w2 from ⟨_, by rw [HF.out], by rw [votesTopL, if_pos HF.out]; exact hv, HB1.out.trans (hb2.mono HB1.out.size)⟩)
    clear hv hb2 hn
    go_wp2
    go_ret2
    exact HP.out
  · have HP := Lib.hid (show VotesTop s l w (.returned (.tuple #[.slice none 0 0, .int .i64 (copiesFault s l)])) w1 from ⟨_, rfl, by rw [votesTopL, if_neg hf]; exact Rp.sl_nil _ _ _, HB1.out⟩)
    generalize copiesFault s l = f at *
    go_wp2_with fail
    go_ret2
    exact HP.out
set_option maxRecDepth 100000 in
set_option maxHeartbeats 4000000 in
theorem weakestRef_any (v0 : Value) (s : List Site) (v1 : Value) (l : List Held) (w : World) (h0 : (Rp.sl siteRp).ok w (· < w.heap.size) [v0] s) (h1 : (Rp.sl heldRp).ok w (· < w.heap.size) [v1] l) :
    Calls Tryd.prog 42 #[v0, v1] w (WeakPost s l w) := by
  have H0 := Lib.hid h0
  have H1 := Lib.hid h1
  clear h0 h1
  go_enter Tryd.func42, Tryd.ntmps42
  go_wp2_with fail
  refine (refCheckCopies_any v0 s v1 l w H0.out H1.out).mono ?_
  rintro e w1 ⟨rfl, hb1⟩
  have HB1 := Lib.hid hb1
  clear hb1
  by_cases hf : copiesFault s l = 0
  · rw [hf]
    have HF := Lib.hid hf
    clear hf
    go_wp2_with fail
    refine (refVotes_any v0 s v1 l w1 (Rp.ext _ H0.out HB1.out) (Rp.ext _ H1.out HB1.out) HF.out).mono ?_
    rintro e w2 ⟨v, rfl, hv, hn, hb2⟩
    have HB2 := Lib.hid (HB1.out.trans (hb2.mono HB1.out.size))
    have HV := Lib.hid hv
    have hl3 := (copies_ok HF.out).2.1
    clear hb2
    have HW0 := Lib.hid (show weakTop s l = weakOf (votesOf s l) by rw [weakTop, if_pos HF.out])
    obtain ⟨V, hV⟩ : ∃ V, votesOf s l = V := ⟨_, rfl⟩
    rw [hV] at HV HW0 hn hv
    clear hV
    obtain ⟨A, c, rfl, hl, hc, _⟩ := Rp.sl_open hv
    unfold maxLen at hc
    clear hv
    go_wp2_with fail
    go_loopw [8, 9, 23] (fun vo vn vi wr => ∃ k : Nat, k ≤ V.length ∧ vi = .int .i64 k ∧ vn = .int .i64 (weakOf (V.take k)).2 ∧ Hid (wr.ownsRow w2.heap.size 9 1 vo (weakOf (V.take k)).1.length (strs (weakOf (V.take k)).1)) ∧ Hid (∀ x ∈ (weakOf (V.take k)).1, x.length ≤ maxLen) ∧ Hid (Below w2.heap.size w2 wr)) (fun _ _ vi _ => V.length - (intOf vi).toNat)
    case atStart => exact ⟨0, by omega, rfl, rfl, World.ownsRow_nil _ _ _ _, (fun x hx => by simp [weakOf] at hx), Below.refl _ _⟩
    case round =>
      obtain ⟨k, hk, rfl, rfl, HO, HZ, HB3⟩ := hrel
      have hwsz := HB3.out.size
      by_cases hlt : k < V.length
      · obtain ⟨ad, c', x1, x2, e1, _, c0, c1, c2, c3, hz1, hz2, hr, hwr⟩ := votes_at (Rp.below _ HV.out HB3.out) hlt
        injection e1 with e1 _ e3
        subst e1 e3
        obtain ⟨A3, c3', rfl, hl3', hc3, _⟩ := Rp.sl_open hr
        obtain ⟨A4, c4', rfl, hl4', hc4, _⟩ := Rp.sl_open hwr
        rw [List.length_map] at *
        unfold maxLen at hc3
        have hwl := weakOf_len V k hk
        have HST := Lib.hid (weakOf_take V k hlt)
        have HZ2 := Lib.hid (weakStep_items (v := V[k]) HZ.out hz1)
        rw [← HST.out] at HZ2
        clear hr hwr HZ
        generalize V[k] = x at *
        generalize weakOf (V.take k) = st at *
        obtain ⟨A5, c5, rfl, _⟩ := own_form HO.out
        have hkb := Blk.new wr 60 [.string (bstr x.item), .string (bstr x.digest), .slice A3 x.right.length c3', (.slice A4 x.wrong.length c4')]
        have d0 : _ = some (Value.string (bstr x.item)) := hkb.cell 0
        have d2 : _ = some (Value.slice A3 x.right.length c3') := hkb.cell 2
        have hbw := (Below.refl wr.heap.size wr).alloc (Nat.le_refl _) (.cells #[.string (bstr x.item), .string (bstr x.digest), .slice A3 x.right.length c3', (.slice A4 x.wrong.length c4')] 60)
        have HBA3 := Lib.hid (HB3.out.alloc HB3.out.size (.cells #[.string (bstr x.item), .string (bstr x.digest), .slice A3 x.right.length c3', (.slice A4 x.wrong.length c4')] 60))
        have HOA := Lib.hid (HO.out.kept (below_grown hbw) (by cases hvv : (Value.slice A5 st.1.length c5).ownBlock <;> simp))
        have HOZ := Lib.hid (World.ownsRow_nil (wr.alloc (.cells #[.string (bstr x.item), .string (bstr x.digest), .slice A3 x.right.length c3', (.slice A4 x.wrong.length c4')] 60)) w2.heap.size 9 1)
        have hsza : w2.heap.size ≤ (wr.alloc (.cells #[.string (bstr x.item), .string (bstr x.digest), .slice A3 x.right.length c3', (.slice A4 x.wrong.length c4')] 60)).heap.size := HBA3.out.size
        clear hkb hbw HO
        have B9 : ∀ {w9 : World}, (wr.alloc (.cells #[.string (bstr x.item), .string (bstr x.digest), .slice A3 x.right.length c3', (.slice A4 x.wrong.length c4')] 60)).grownBy w9 none → True := fun _ => trivial
        clear B9
        by_cases q1 : st.1 = []
        · have HNX := Lib.hid (weakStep_new (v := x) (.inl q1))
          have HQ := Lib.hid q1
          have hz : st.1.length = 0 := by rw [q1]; rfl
          rw [hz] at HOA ⊢
          clear q1
          go_wp2_with (at_builtin; refine app_str rfl (.tmp 42) (.tmp 45) rfl HOZ.out hsza rfl (by rw [World.size_alloc]; rfl) (by omega) ?_; intro g1 cc1 w9 HO9 HG9 HB9 HL9)
          go_roundw
          case rel =>
            exact ⟨k + 1, by omega, by go_num, by rw [HST.out, HNX.out], by rw [HST.out, HNX.out]; exact HO9.out, HZ2.out, HB9.out _ HBA3.out⟩
          case measure => simp [intOf]; omega
        · by_cases q2 : (x.right.length : Int) < st.2
          · have HNX := Lib.hid (weakStep_new (v := x) (.inr q2))
            have hz : ((st.1.length : Int) == 0) = false := by have := List.length_pos_iff.2 q1; rw [beq_eq_false_iff_ne]; omega
            clear q1
            go_wp2_with (at_builtin; refine app_str rfl (.tmp 42) (.tmp 45) rfl HOZ.out hsza rfl (by rw [World.size_alloc]; rfl) (by omega) ?_; intro g1 cc1 w9 HO9 HG9 HB9 HL9)
            go_roundw
            case rel =>
              exact ⟨k + 1, by omega, by go_num, by rw [HST.out, HNX.out], by rw [HST.out, HNX.out]; exact HO9.out, HZ2.out, HB9.out _ HBA3.out⟩
            case measure => simp [intOf]; omega
          · by_cases q3 : (x.right.length : Int) = st.2
            · have HNX := Lib.hid (weakStep_more (v := x) q1 q3)
              have hz : ((st.1.length : Int) == 0) = false := by have := List.length_pos_iff.2 q1; rw [beq_eq_false_iff_ne]; omega
              clear q1
              go_wp2_with (at_builtin; refine app_str rfl (.tmp 42) (.tmp 45) rfl HOA.out hsza rfl (by rw [World.size_alloc]; rfl) (by omega) ?_; intro g1 cc1 w9 HO9 HG9 HB9 HL9)
              go_roundw
              case rel =>
                exact ⟨k + 1, by omega, by go_num, by rw [HST.out, HNX.out], by rw [HST.out, HNX.out]; rw [strs_app, List.length_append]; exact HO9.out, HZ2.out, HB9.out _ HBA3.out⟩
              case measure => simp [intOf]; omega
            · have HNX := Lib.hid (weakStep_no (v := x) q1 (by omega))
              have hz : ((st.1.length : Int) == 0) = false := by have := List.length_pos_iff.2 q1; rw [beq_eq_false_iff_ne]; omega
              clear q1
              go_wp2_with fail
              go_roundw
              case rel =>
                exact ⟨k + 1, by omega, by go_num, by rw [HST.out, HNX.out], by rw [HST.out, HNX.out]; exact HOA.out, HZ2.out, HBA3.out⟩
              case measure => simp [intOf]; omega
      · obtain rfl : k = V.length := by omega
        rw [List.take_length] at *
        obtain ⟨A5, c5, rfl, _⟩ := own_form HO.out
        have HP := Lib.hid (show WeakPost s l w (.returned (.tuple #[.slice A5 (weakOf V).1.length c5, .int .i64 (weakOf V).2, .int .i64 0])) wr from
          ⟨_, by rw [HF.out, HW0.out], by rw [HW0.out]; exact Rp.str_own (by rw [← strs_map]; exact HO.out) (fun x hx => by obtain ⟨y, hy, rfl⟩ := List.mem_map.1 hx; rw [bstr_size]; exact HZ.out y hy) (fun g hg => (HO.out.lt g hg).2), HB2.out.trans (HB3.out.mono HB2.out.size)⟩)
        clear HO HZ
        go_wp2_with fail
        go_ret3
        exact HP.out
  · have HP := Lib.hid (show WeakPost s l w (.returned (.tuple #[.slice none 0 0, .int .i64 0, .int .i64 (copiesFault s l)])) w1 from ⟨_, by rw [weakTop, if_neg hf], by rw [weakTop, if_neg hf]; exact Rp.sl_nil _ _ _, HB1.out⟩)
    generalize copiesFault s l = f at *
    go_wp2_with fail
    go_ret3
    exact HP.out
/-- Equal rows. -/
theorem eqStrs_is (v1 v2 : Value) (a : List ByteArray) (w : World) (S T : Nat → Prop) (h1 : (Rp.sl Rp.str).ok w S [v1] a) (h2 : (Rp.sl Rp.str).ok w T [v2] a) :
    Calls Tryd.prog 31 #[v1, v2] w fun e w' => e = .returned (.bool true) ∧ ∃ n, w' = w.drewN n :=
  (eqStrs_any v1 v2 a a w S T h1 h2).mono (by rintro e w' ⟨rfl, h⟩; exact ⟨by rw [decide_eq_true rfl], h⟩)
set_option maxRecDepth 100000 in
set_option maxHeartbeats 4000000 in
theorem sameVotes_any (v1 v2 : Value) (l : List Vote) (w : World) (S T : Nat → Prop) (h1 : (Rp.sl voteRp).ok w S [v1] l) (h2 : (Rp.sl voteRp).ok w T [v2] l) :
    Calls Tryd.prog 40 #[v1, v2] w fun e w' => e = .returned (.bool true) ∧ Drawn w w' := by
  obtain ⟨A, c, rfl, hl1, hc1, _⟩ := Rp.sl_open h1
  obtain ⟨B, d, rfl, hl2, hc2, _⟩ := Rp.sl_open h2
  unfold maxLen at hc1 hc2
  have H1 := Lib.hid h1
  have H2 := Lib.hid h2
  clear h1 h2
  go_enter Tryd.func40, Tryd.ntmps40
  go_wp2
  go_loopw [13] (fun i wr => ∃ k : Nat, k ≤ l.length ∧ i = .int .i64 k ∧ Hid (Drawn w wr)) (fun i _ => l.length - (intOf i).toNat)
  case atStart => exact ⟨0, Nat.zero_le _, rfl, Drawn.refl w⟩
  case round =>
    obtain ⟨k, hk, rfl, HW⟩ := hrel
    by_cases hlt : k < l.length
    · obtain ⟨ad, c', x1, x2, e1, _, c0, c1, c2, c3, _, _, hr, hwr⟩ := votes_at (Rp.drawn _ H1.out HW.out) hlt
      injection e1 with e1 _ e3
      subst e1 e3
      obtain ⟨ad2, c'', y1, y2, e2, _, d0, d1, d2, d3, _, _, kr, kwr⟩ := votes_at (Rp.drawn _ H2.out HW.out) hlt
      injection e2 with e2 _ e3
      subst e2 e3
      obtain ⟨A3, c3', rfl, _⟩ := Rp.sl_open hr
      obtain ⟨A4, c4', rfl, _⟩ := Rp.sl_open hwr
      obtain ⟨A5, c5', rfl, _⟩ := Rp.sl_open kr
      obtain ⟨A6, c6', rfl, _⟩ := Rp.sl_open kwr
      rw [List.length_map] at hr hwr kr kwr c2 c3 d2 d3
      have E1 := Lib.hid hr
      have E2 := Lib.hid hwr
      have E3 := Lib.hid kr
      have E4 := Lib.hid kwr
      clear hr hwr kr kwr
      generalize l[k] = x at *
      have b0 : ((bstr x.item).toList != (bstr x.item).toList) = false := by simp
      have b1 : ((bstr x.digest).toList != (bstr x.digest).toList) = false := by simp
      go_wp2
      go_quiet ((go_at_call 31; first | exact Calls.quiet_of (eqStrs_is _ _ _ _ _ _ (Rp.drewN _ E1.out _) (Rp.drewN _ E3.out _)) | exact Calls.quiet_of (eqStrs_is _ _ _ _ _ _ (Rp.drewN _ E2.out _) (Rp.drewN _ E4.out _))))
      go_wp2
      go_roundw
      case rel => exact ⟨k + 1, by omega, by go_num, HW.out.more _⟩
      case measure => simp [intOf]; omega
    · obtain rfl : k = l.length := by omega
      go_wp2
      go_ret
      exact ⟨rfl, HW.out⟩
end Go.Proofs.YtnnoolemmnailaaDoor
