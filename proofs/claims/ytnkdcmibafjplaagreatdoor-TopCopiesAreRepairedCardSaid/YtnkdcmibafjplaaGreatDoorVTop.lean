/-
  'Votes', 'Weakest' of both packages of chapter 11, SameVotes.
-/
import Derived.Test.YtnkdcmibafjplaaGreatDoorProg
import Derived.Test.YtnkdcmibafjplaaGreatDoorVotes
import Derived.Test.YtnkdcmibafjplaaGreatDoorEqS
import Derived.Deep.QuietTactic
import Derived.BigQuiet
namespace Go.Proofs.YtnkdcmibafjplaaGreatDoor
open Go.RowKit
set_option linter.unusedVariables false
set_option linter.unusedSimpArgs false

def weakStep (st : List (List UInt8) × Int) (v : Vote) : List (List UInt8) × Int :=
  if st.1 = [] ∨ (v.right.length : Int) < st.2 then ([v.item], (v.right.length : Int)) else if (v.right.length : Int) = st.2 then (st.1 ++ [v.item], st.2) else st
def weakOf (l : List Vote) : List (List UInt8) × Int := l.foldl weakStep ([], 0)
theorem weakOf_take (l : List Vote) (k : Nat) (h : k < l.length) : weakOf (l.take (k + 1)) = weakStep (weakOf (l.take k)) l[k] := by
  rw [List.take_succ_eq_append_getElem h, weakOf, List.foldl_append]; rfl
theorem weakStep_new {st : List (List UInt8) × Int} {v : Vote} (h : st.1 = [] ∨ (v.right.length : Int) < st.2) : weakStep st v = ([v.item], (v.right.length : Int)) := by rw [weakStep, if_pos h]
theorem weakStep_more {st : List (List UInt8) × Int} {v : Vote} (h : st.1 ≠ []) (h2 : (v.right.length : Int) = st.2) : weakStep st v = (st.1 ++ [v.item], st.2) := by
  rw [weakStep, if_neg (by rintro (q | q); exact h q; omega), if_pos h2]
theorem weakStep_no {st : List (List UInt8) × Int} {v : Vote} (h : st.1 ≠ []) (h2 : st.2 < (v.right.length : Int)) : weakStep st v = st := by
  rw [weakStep, if_neg (by rintro (q | q); exact h q; omega), if_neg (by omega)]
theorem weakStep_len (st : List (List UInt8) × Int) (v : Vote) : (weakStep st v).1.length ≤ st.1.length + 1 := by
  unfold weakStep; split
  · simp
  · split <;> simp
theorem weakOf_len (l : List Vote) : ∀ k, k ≤ l.length → (weakOf (l.take k)).1.length ≤ k
  | 0, _ => by simp [weakOf]
  | k + 1, h => by rw [weakOf_take l k (by omega)]; have := weakStep_len (weakOf (l.take k)) l[k]; have := weakOf_len l k (by omega); omega
theorem weakStep_items {st : List (List UInt8) × Int} {v : Vote} {n : Nat} (h : ∀ x ∈ st.1, x.length ≤ n) (hv : v.item.length ≤ n) : ∀ x ∈ (weakStep st v).1, x.length ≤ n := by
  unfold weakStep; split
  · intro x hx; simp at hx; rw [hx]; exact hv
  · split
    · intro x hx
      rcases List.mem_append.1 hx with hx | hx
      · exact h x hx
      · simp at hx; rw [hx]; exact hv
    · exact h
theorem votes_at {w : World} {S : Nat → Prop} {v : Value} {l : List Vote} (h : (Rp.sl voteRp).ok w S [v] l) {k : Nat} (hk : k < l.length) :
    ∃ ad c v1 v2, v = .slice (some ad) l.length c ∧ S ad.block ∧ w.cell? (ad.add (k * 4)) = some (.string (bstr l[k].item)) ∧ w.cell? ⟨(ad.add (k * 4)).block, (ad.add (k * 4)).off + 1, none⟩ = some (.string (bstr l[k].digest)) ∧
      w.cell? ⟨(ad.add (k * 4)).block, (ad.add (k * 4)).off + 2, none⟩ = some v1 ∧ w.cell? ⟨(ad.add (k * 4)).block, (ad.add (k * 4)).off + 3, none⟩ = some v2 ∧ l[k].item.length ≤ maxLen ∧ l[k].digest.length ≤ maxLen ∧
      (Rp.sl Rp.str).ok w S [v1] (l[k].right.map bstr) ∧ (Rp.sl Rp.str).ok w S [v2] (l[k].wrong.map bstr) := by
  obtain ⟨A, c, rfl, _⟩ := Rp.sl_open h
  obtain ⟨ad, us, rfl, _, hb, hu, hcell⟩ := Rp.sl_at h hk
  obtain ⟨v1, v2, rfl, hz1, hz2, hr, hw⟩ := vote_open hu
  have c0 := hcell 0 _ rfl
  have c1 := hcell 1 _ rfl
  have c2 := hcell 2 _ rfl
  have c3 := hcell 3 _ rfl
  rw [add_fld _ _ _ (by omega)] at c1 c2 c3
  exact ⟨ad, c, v1, v2, rfl, hb, c0, c1, c2, c3, hz1, hz2, hr, hw⟩
def weakTop (s : List Site) (l : List Held) : List (List UInt8) × Int := if copiesFault s l = 0 then weakOf (votesOf s l) else ([], 0)
def WeakPost (s : List Site) (l : List Held) (w : World) (e : Ending) (w' : World) : Prop :=
  ∃ v, e = .returned (.tuple #[v, .int .i64 (weakTop s l).2, .int .i64 (copiesFault s l)]) ∧ (Rp.sl Rp.str).ok w' (· < w'.heap.size) [v] ((weakTop s l).1.map bstr) ∧ Below w.heap.size w w'
theorem strs_map (l : List (List UInt8)) : strs l = (l.map bstr).map .string := by rw [List.map_map]; rfl
set_option maxRecDepth 100000 in
set_option maxHeartbeats 4000000 in
theorem votesTop_any (v0 : Value) (s : List Site) (v1 : Value) (l : List Held) (w : World) (h0 : (Rp.sl siteRp).ok w (· < w.heap.size) [v0] s) (h1 : (Rp.sl heldRp).ok w (· < w.heap.size) [v1] l) :
    Calls Tryz.prog 14 #[v0, v1] w (VotesTop s l w) := by
  have H0 := Lib.hid h0
  have H1 := Lib.hid h1
  clear h0 h1
  go_enter Tryz.func14, Tryz.ntmps14
  go_wp2_with fail
  refine (checkCopies_any v0 s v1 l w H0.out H1.out).mono ?_
  rintro e w1 ⟨rfl, hb1⟩
  have HB1 := Lib.hid hb1
  clear hb1
  by_cases hf : copiesFault s l = 0
  · rw [hf]
    have HF := Lib.hid hf
    clear hf
    go_wp2_with fail
    refine (votes_any v0 s v1 l w1 (Rp.ext _ H0.out HB1.out) (Rp.ext _ H1.out HB1.out) HF.out).mono ?_
    rintro e w2 ⟨v, rfl, hv, hn, hb2⟩
    have HP := Lib.hid (show VotesTop s l w (.returned (.tuple #[v, .int .i64 0])) w2 from ⟨_, by rw [HF.out], by rw [votesTopL, if_pos HF.out]; exact hv, HB1.out.trans (hb2.mono HB1.out.size)⟩)
    clear hv hb2 hn
    go_wp2
    go_ret2
    exact HP.out
  · have HP := Lib.hid (show VotesTop s l w (.returned (.tuple #[.slice none 0 0, .int .i64 (copiesFault s l)])) w1 from ⟨_, rfl, by rw [votesTopL, if_neg hf]; exact Rp.sl_nil _ _ _, HB1.out⟩)
    generalize copiesFault s l = f at *
    go_wp2_with fail
    go_ret2
    exact HP.out
end Go.Proofs.YtnkdcmibafjplaaGreatDoor
