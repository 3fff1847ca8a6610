/-
  Copies after repairs: plain facts.
-/
import Derived.Test.YtnkdcmibafjplaaGreatDoorRepPlain
import Derived.Sort.Walk0
namespace Go.Proofs.YtnkdcmibafjplaaGreatDoor
open Go.RowKit
set_option linter.unusedVariables false
set_option linter.unusedSimpArgs false

theorem slt_lt (a b : List UInt8) : slt a b = decide (a < b) := Go.Proofs.bytesLess_eq a b
theorem slt_tr {a b c : List UInt8} (h1 : slt a b = true) (h2 : slt b c = true) : slt a c = true := by
  rw [slt_lt, decide_eq_true_eq] at *
  exact List.lt_trans h1 h2
theorem hc_lt (a b : Held) : heldCmp a b < 0 ↔ slt a.item b.item = true ∨ (a.item = b.item ∧ slt a.site b.site = true) := by
  unfold heldCmp or2 slt
  rcases scmp_cases a.item b.item with ⟨h1, h2, h3, h4⟩ | ⟨h1, h2, h3, h4⟩ | ⟨h1, h2, h3, h4⟩
  · rw [h1, h2]; simp
  · rw [h1, h2, h4, if_pos rfl]
    rcases scmp_cases a.site b.site with ⟨g1, g2, g3, g4⟩ | ⟨g1, g2, g3, g4⟩ | ⟨g1, g2, g3, g4⟩ <;> rw [g1, g2] <;> simp
  · rw [h1, h2]; simp [h4]
theorem hc_eq (a b : Held) : heldCmp a b = 0 ↔ a.item = b.item ∧ a.site = b.site := by
  unfold heldCmp or2
  rcases scmp_cases a.item b.item with ⟨h1, h2, h3, h4⟩ | ⟨h1, h2, h3, h4⟩ | ⟨h1, h2, h3, h4⟩
  · rw [h1]; simp [h4]
  · rw [h1, h4, if_pos rfl]
    rcases scmp_cases a.site b.site with ⟨g1, g2, g3, g4⟩ | ⟨g1, g2, g3, g4⟩ | ⟨g1, g2, g3, g4⟩ <;> rw [g1] <;> simp [g4]
  · rw [h1]; simp [h4]
theorem hc_gt (a b : Held) : 0 < heldCmp a b ↔ heldCmp b a < 0 := by
  rw [hc_lt]
  unfold heldCmp or2 slt
  rcases scmp_cases a.item b.item with ⟨h1, h2, h3, h4⟩ | ⟨h1, h2, h3, h4⟩ | ⟨h1, h2, h3, h4⟩
  · rw [h1, h3]; simp [Ne.symm h4]
  · rw [h1, h3, h4, if_pos rfl]
    rcases scmp_cases a.site b.site with ⟨g1, g2, g3, g4⟩ | ⟨g1, g2, g3, g4⟩ | ⟨g1, g2, g3, g4⟩ <;> rw [g1, g3] <;> simp
  · rw [h1, h3]; simp
theorem hc_tr {a b c : Held} (h1 : heldCmp a b < 0) (h2 : heldCmp b c < 0) : heldCmp a c < 0 := by
  rw [hc_lt] at *
  rcases h1 with h1 | ⟨e1, h1⟩ <;> rcases h2 with h2 | ⟨e2, h2⟩
  · exact .inl (slt_tr h1 h2)
  · exact .inl (by rw [← e2]; exact h1)
  · exact .inl (by rw [e1]; exact h2)
  · exact .inr ⟨e1.trans e2, slt_tr h1 h2⟩
theorem hc_congr {a b h : Held} (e : heldCmp a b = 0) : heldCmp a h = heldCmp b h := by
  obtain ⟨e1, e2⟩ := (hc_eq a b).1 e
  unfold heldCmp
  rw [e1, e2]
theorem hc_congr2 {a b h : Held} (e : heldCmp a b = 0) : heldCmp h a = heldCmp h b := by
  obtain ⟨e1, e2⟩ := (hc_eq a b).1 e
  unfold heldCmp
  rw [e1, e2]
def HSorted (l : List Held) : Prop := l.Pairwise fun a b => heldCmp a b < 0
theorem sorted_lt {l : List Held} (h : HSorted l) {i j : Nat} (hij : i < j) (hj : j < l.length) : heldCmp (l[i]'(by omega)) l[j] < 0 := List.pairwise_iff_getElem.1 h i j (by omega) hj hij
theorem copies_hs {s : List Site} {l : List Held} (h : copiesFault s l = 0) : HSorted l := by
  have hf := (copies_ok h).2.2
  have adj : ∀ i, ∀ hi : i + 1 < l.length, heldCmp l[i] l[i + 1] < 0 := fun i hi => by
    have h1 := hf (i + 1) hi
    unfold heldF at h1
    rw [getD_at _ _ hi, getD_at _ _ (show i + 1 - 1 < l.length by omega)] at h1
    split at h1
    · omega
    · split at h1
      · omega
      · split at h1
        · omega
        · split at h1
          · omega
          · rename_i hb
            have hb : heldBad l[i] l[i + 1] = false := by
              simp only [Nat.add_sub_cancel] at hb
              cases hq : heldBad l[i] l[i + 1] with
              | false => rfl
              | true => exact absurd ⟨Nat.succ_pos i, hq⟩ hb
            rw [← heldBad_cmp, decide_eq_false_iff_not] at hb
            omega
  refine List.pairwise_iff_getElem.2 fun i j hi hj hij => ?_
  obtain ⟨d, rfl⟩ : ∃ d, j = i + 1 + d := ⟨j - (i + 1), by omega⟩
  induction d with
  | zero => exact adj i hj
  | succ d ih => exact hc_tr (ih (by omega) (by omega)) (adj (i + 1 + d) hj)
/-- How many copies stand first that are less. -/
def lbN : List Held → Held → Nat
  | [], _ => 0
  | y :: l, h => if heldCmp y h < 0 then lbN l h + 1 else 0
def putL : List Held → Held → List Held
  | [], h => [h]
  | y :: l, h => if heldCmp y h < 0 then y :: putL l h else if heldCmp y h = 0 then h :: l else h :: y :: l
def heldL (item site : List UInt8) : List Held → List UInt8
  | [] => []
  | y :: l => if y.item = item ∧ y.site = site then y.digest else heldL item site l
theorem lbN_le : ∀ (l : List Held) (h : Held), lbN l h ≤ l.length
  | [], _ => Nat.le_refl _
  | y :: l, h => by rw [lbN]; split; have := lbN_le l h; simp; omega; simp
theorem lbN_before : ∀ (l : List Held) (h : Held) (i : Nat) (hi : i < lbN l h) (hl : i < l.length), heldCmp l[i] h < 0
  | y :: l, h, i, hi, hl => by
    rw [lbN] at hi
    split at hi
    · rename_i hy
      cases i with
      | zero => exact hy
      | succ i => exact lbN_before l h i (by omega) (by simpa using hl)
    · omega
theorem lbN_stop : ∀ (l : List Held) (h : Held) (hl : lbN l h < l.length), ¬ heldCmp l[lbN l h] h < 0
  | y :: l, h, hl => by
    by_cases hy : heldCmp y h < 0
    · have e : lbN (y :: l) h = lbN l h + 1 := by rw [lbN, if_pos hy]
      have := lbN_stop l h (by rw [e] at hl; simpa using hl)
      simp only [e, List.getElem_cons_succ]
      exact this
    · have e : lbN (y :: l) h = 0 := by rw [lbN, if_neg hy]
      simp only [e, List.getElem_cons_zero]
      exact hy
theorem lbN_at : ∀ (l : List Held) (h : Held) (k : Nat), k ≤ l.length → (∀ i, i < k → ∀ hl : i < l.length, heldCmp l[i] h < 0) → (∀ hl : k < l.length, ¬ heldCmp l[k] h < 0) → lbN l h = k
  | [], h, k, hk, _, _ => by simp at hk; subst hk; rfl
  | y :: l, h, 0, _, _, hn => by rw [lbN, if_neg (show ¬ heldCmp y h < 0 from hn (by simp))]
  | y :: l, h, k + 1, hk, ha, hn => by
    rw [lbN, if_pos (show heldCmp y h < 0 from ha 0 (by omega) (by simp)), lbN_at l h k (by simpa using hk) (fun i hi hl => ha (i + 1) (by omega) (by simpa using hl)) (fun hl => hn (by simpa using hl))]
theorem putL_hit : ∀ (l : List Held) (h : Held) (hl : lbN l h < l.length), heldCmp l[lbN l h] h = 0 → putL l h = l.set (lbN l h) h
  | y :: l, h, hl, he => by
    by_cases hy : heldCmp y h < 0
    · have e : lbN (y :: l) h = lbN l h + 1 := by rw [lbN, if_pos hy]
      simp only [e, List.getElem_cons_succ] at he
      rw [putL, if_pos hy, e, List.set_cons_succ, putL_hit l h (by rw [e] at hl; simpa using hl) he]
    · have e : lbN (y :: l) h = 0 := by rw [lbN, if_neg hy]
      simp only [e, List.getElem_cons_zero] at he
      rw [putL, if_neg hy, if_pos he, e, List.set_cons_zero]
theorem putL_miss : ∀ (l : List Held) (h : Held), (∀ hl : lbN l h < l.length, heldCmp l[lbN l h] h ≠ 0) → putL l h = l.take (lbN l h) ++ h :: l.drop (lbN l h)
  | [], h, _ => rfl
  | y :: l, h, he => by
    by_cases hy : heldCmp y h < 0
    · have e : lbN (y :: l) h = lbN l h + 1 := by rw [lbN, if_pos hy]
      rw [putL, if_pos hy, e, List.take_succ_cons, List.drop_succ_cons, putL_miss l h fun hl => ?_]
      · rfl
      · have := he (by rw [e]; simpa using hl)
        simpa only [e, List.getElem_cons_succ] using this
    · have e : lbN (y :: l) h = 0 := by rw [lbN, if_neg hy]
      have he0 := he (by rw [e]; simp)
      simp only [e, List.getElem_cons_zero] at he0
      rw [putL, if_neg hy, if_neg he0, e]
      rfl
theorem putL_mem : ∀ (l : List Held) (h z : Held), z ∈ putL l h → z ∈ l ∨ z = h
  | [], h, z, hz => by simp [putL] at hz; exact .inr hz
  | y :: l, h, z, hz => by
    rw [putL] at hz
    split at hz
    · rcases List.mem_cons.1 hz with rfl | hz
      · exact .inl (by simp)
      · rcases putL_mem l h z hz with h1 | h1
        · exact .inl (by simp [h1])
        · exact .inr h1
    · split at hz
      · rcases List.mem_cons.1 hz with rfl | hz
        · exact .inr rfl
        · exact .inl (by simp [hz])
      · rcases List.mem_cons.1 hz with rfl | hz
        · exact .inr rfl
        · exact .inl hz
theorem putL_sorted : ∀ (l : List Held) (h : Held), HSorted l → HSorted (putL l h)
  | [], h, _ => List.pairwise_singleton _ _
  | y :: l, h, hs => by
    obtain ⟨h1, h2⟩ := List.pairwise_cons.1 hs
    rw [putL]
    split
    · rename_i hy
      refine List.pairwise_cons.2 ⟨fun z hz => ?_, putL_sorted l h h2⟩
      rcases putL_mem l h z hz with h3 | rfl
      · exact h1 z h3
      · exact hy
    · split
      · rename_i hy
        refine List.pairwise_cons.2 ⟨fun z hz => ?_, h2⟩
        rw [← hc_congr hy]; exact h1 z hz
      · rename_i hn he
        have hgt : heldCmp h y < 0 := (hc_gt y h).1 (by omega)
        refine List.pairwise_cons.2 ⟨fun z hz => ?_, hs⟩
        rcases List.mem_cons.1 hz with rfl | hz
        · exact hgt
        · exact hc_tr hgt (h1 z hz)
theorem putL_len (l : List Held) (h : Held) : (putL l h).length ≤ l.length + 1 ∧ l.length ≤ (putL l h).length := by
  induction l with
  | nil => simp [putL]
  | cons y l ih =>
    rw [putL]
    split
    · simp; omega
    · split <;> simp
/-- The digest that a search finds. -/
def hitL (l : List Held) (h : Held) : Bool := decide (lbN l h < l.length) && decide (heldCmp (l.getD (lbN l h) default) h = 0)
theorem hit_held : ∀ (l : List Held) (h : Held), HSorted l → heldL h.item h.site l = if hitL l h = true then (l.getD (lbN l h) default).digest else []
  | [], h, _ => rfl
  | y :: l, h, hs => by
    obtain ⟨h1, h2⟩ := List.pairwise_cons.1 hs
    have ih := hit_held l h h2
    by_cases hy : heldCmp y h < 0
    · have e : lbN (y :: l) h = lbN l h + 1 := by rw [lbN, if_pos hy]
      have hne : ¬ (y.item = h.item ∧ y.site = h.site) := fun q => by have := (hc_eq y h).2 q; omega
      have eh : hitL (y :: l) h = hitL l h := by unfold hitL; rw [e]; simp
      rw [heldL, if_neg hne, ih, eh, e]
      simp
    · have e : lbN (y :: l) h = 0 := by rw [lbN, if_neg hy]
      by_cases hq : heldCmp y h = 0
      · have eh : hitL (y :: l) h = true := by unfold hitL; rw [e]; simp [hq]
        rw [heldL, if_pos ((hc_eq y h).1 hq), if_pos eh, e]
        rfl
      · have eh : ¬ hitL (y :: l) h = true := by unfold hitL; rw [e]; simp [hq]
        have hgt : heldCmp h y < 0 := (hc_gt y h).1 (by omega)
        rw [heldL, if_neg (fun q => hq ((hc_eq y h).2 q)), if_neg eh]
        have : ∀ m : List Held, (∀ z ∈ m, heldCmp h z < 0) → heldL h.item h.site m = [] := by
          intro m
          induction m with
          | nil => intro _; rfl
          | cons z m im =>
            intro hm
            have hz := hm z (by simp)
            rw [heldL, if_neg (fun q => by have h0 := (hc_eq z h).2 q; have := (hc_gt z h).2 hz; omega)]
            exact im fun y hy => hm y (by simp [hy])
        exact this l fun z hz => hc_tr hgt (h1 z hz)
theorem heldL_take {item site : List UInt8} {l : List Held} {k : Nat} (hk : k < l.length) (h : l[k].item = item ∧ l[k].site = site) (hb : ∀ j, j < k → ∀ hj : j < l.length, ¬ (l[j].item = item ∧ l[j].site = site)) : heldL item site l = l[k].digest := by
  induction l generalizing k with
  | nil => simp at hk
  | cons y l ih =>
    cases k with
    | zero => rw [heldL, if_pos (by simpa using h)]; rfl
    | succ k =>
      rw [heldL, if_neg (show ¬ (y.item = item ∧ y.site = site) from hb 0 (by omega) (by simp))]
      exact ih (k := k) (by simpa using hk) h (fun j hj hl => hb (j + 1) (by omega) (by simpa using hl))
theorem heldL_none {item site : List UInt8} {l : List Held} (hb : ∀ j, ∀ hj : j < l.length, ¬ (l[j].item = item ∧ l[j].site = site)) : heldL item site l = [] := by
  induction l with
  | nil => rfl
  | cons y l ih =>
    rw [heldL, if_neg (show ¬ (y.item = item ∧ y.site = site) from hb 0 (by simp))]
    exact ih fun j hj => hb (j + 1) (by simpa using hj)
theorem heldL_size {item site : List UInt8} {n : Nat} : ∀ {l : List Held}, (∀ h ∈ l, h.digest.length ≤ n) → (heldL item site l).length ≤ n
  | [], _ => Nat.zero_le _
  | y :: l, h => by
    rw [heldL]
    split
    · exact h y (by simp)
    · exact heldL_size fun z hz => h z (by simp [hz])
/-- Repairs. -/
def twiceB (r : List Rpr) (i : Nat) : Bool := (r.take i).any fun y => decide (y.item = (r.getD i default).item ∧ y.to = (r.getD i default).to)
def aftF (s : List Site) (l : List Held) (r : List Rpr) (i : Nat) : Int :=
  if isNm (r.getD i default).item = false then 5 else if siteIdx s (r.getD i default).frm < 0 then 5 else if siteIdx s (r.getD i default).to < 0 then 5 else if withinB (r.getD i default).rnd 1 3000 = false then 1
  else if heldL (r.getD i default).item (r.getD i default).frm l = [] then 9 else if twiceB r i = true then 7 else 0
def rprHeld (l : List Held) (x : Rpr) : Held := ⟨x.item, x.to, heldL x.item x.frm l⟩
def aftL (l : List Held) (r : List Rpr) : List Held := r.foldl (fun out x => putL out (rprHeld l x)) l
theorem aftL_take (l : List Held) (r : List Rpr) {k : Nat} (hk : k < r.length) : aftL l (r.take (k + 1)) = putL (aftL l (r.take k)) (rprHeld l r[k]) := by
  rw [aftL, List.take_succ_eq_append_getElem hk, List.foldl_append]; rfl
theorem aftL_facts (l : List Held) (r : List Rpr) (hs : HSorted l) : ∀ k, k ≤ r.length → HSorted (aftL l (r.take k)) ∧ (aftL l (r.take k)).length ≤ l.length + k
  | 0, _ => by simpa [aftL] using hs
  | k + 1, h => by
    obtain ⟨h1, h2⟩ := aftL_facts l r hs k (by omega)
    rw [aftL_take l r (by omega)]
    have := putL_len (aftL l (r.take k)) (rprHeld l r[k])
    exact ⟨putL_sorted _ _ h1, by omega⟩
def HSz (h : Held) : Prop := h.item.length ≤ maxLen ∧ h.site.length ≤ maxLen ∧ h.digest.length ≤ maxLen
theorem aftL_sz (l : List Held) (r : List Rpr) (hl : ∀ h ∈ l, HSz h) (hr : ∀ x ∈ r, x.item.length ≤ maxLen ∧ x.to.length ≤ maxLen) : ∀ k, k ≤ r.length → ∀ h ∈ aftL l (r.take k), HSz h
  | 0, _ => by simpa [aftL] using hl
  | k + 1, h => by
    rw [aftL_take l r (by omega)]
    intro z hz
    rcases putL_mem _ _ z hz with h1 | rfl
    · exact aftL_sz l r hl hr k (by omega) z h1
    · exact ⟨(hr _ (List.getElem_mem _)).1, (hr _ (List.getElem_mem _)).2, heldL_size fun h hh => (hl h hh).2.2⟩
def aftFault (s : List Site) (l : List Held) (r : List Rpr) : Int :=
  if copiesFault s l ≠ 0 then copiesFault s l else if 3000 < r.length then 2 else if firstF (aftF s l r) r.length ≠ 0 then firstF (aftF s l r) r.length else if 3000 < (aftL l r).length then 2 else 0
def aftOut (s : List Site) (l : List Held) (r : List Rpr) : List Held := if aftFault s l r = 0 then aftL l r else []
def AftPost (s : List Site) (l : List Held) (r : List Rpr) (w : World) (e : Ending) (w' : World) : Prop :=
  ∃ v, e = .returned (.tuple #[v, .int .i64 (aftFault s l r)]) ∧ (Rp.sl heldRp).ok w' (· < w'.heap.size) [v] (aftOut s l r) ∧ Below w.heap.size w w'
section
variable {s : List Site} {l : List Held} {r : List Rpr} {i : Nat}
theorem aftF_1 (hi : i < r.length) (h : isNm r[i].item = false) : aftF s l r i = 5 := by rw [aftF, getD_at _ _ hi, if_pos h]
theorem aftF_2 (hi : i < r.length) (h : isNm r[i].item = true) (h2 : siteIdx s r[i].frm < 0) : aftF s l r i = 5 := by
  rw [aftF, getD_at _ _ hi, if_neg (by rw [h]; decide), if_pos h2]
theorem aftF_3 (hi : i < r.length) (h : isNm r[i].item = true) (h2 : ¬ siteIdx s r[i].frm < 0) (h3 : siteIdx s r[i].to < 0) : aftF s l r i = 5 := by
  rw [aftF, getD_at _ _ hi, if_neg (by rw [h]; decide), if_neg h2, if_pos h3]
theorem aftF_4 (hi : i < r.length) (h : isNm r[i].item = true) (h2 : ¬ siteIdx s r[i].frm < 0) (h3 : ¬ siteIdx s r[i].to < 0) (h4 : withinB r[i].rnd 1 3000 = false) : aftF s l r i = 1 := by
  rw [aftF, getD_at _ _ hi, if_neg (by rw [h]; decide), if_neg h2, if_neg h3, if_pos h4]
theorem aftF_5 (hi : i < r.length) (h : isNm r[i].item = true) (h2 : ¬ siteIdx s r[i].frm < 0) (h3 : ¬ siteIdx s r[i].to < 0) (h4 : withinB r[i].rnd 1 3000 = true) (h5 : heldL r[i].item r[i].frm l = []) : aftF s l r i = 9 := by
  rw [aftF, getD_at _ _ hi, if_neg (by rw [h]; decide), if_neg h2, if_neg h3, if_neg (by rw [h4]; decide), if_pos h5]
theorem aftF_6 (hi : i < r.length) (h : isNm r[i].item = true) (h2 : ¬ siteIdx s r[i].frm < 0) (h3 : ¬ siteIdx s r[i].to < 0) (h4 : withinB r[i].rnd 1 3000 = true) (h5 : heldL r[i].item r[i].frm l ≠ []) (h6 : twiceB r i = true) : aftF s l r i = 7 := by
  rw [aftF, getD_at _ _ hi, if_neg (by rw [h]; decide), if_neg h2, if_neg h3, if_neg (by rw [h4]; decide), if_neg h5, if_pos h6]
theorem aftF_7 (hi : i < r.length) (h : isNm r[i].item = true) (h2 : ¬ siteIdx s r[i].frm < 0) (h3 : ¬ siteIdx s r[i].to < 0) (h4 : withinB r[i].rnd 1 3000 = true) (h5 : heldL r[i].item r[i].frm l ≠ []) (h6 : twiceB r i = false) : aftF s l r i = 0 := by
  rw [aftF, getD_at _ _ hi, if_neg (by rw [h]; decide), if_neg h2, if_neg h3, if_neg (by rw [h4]; decide), if_neg h5, if_neg (by rw [h6]; decide)]
theorem aftFault_at (h0 : copiesFault s l = 0) (h3 : ¬ 3000 < r.length) (hi : i < r.length) (hS : ∀ j, j < i → aftF s l r j = 0) {f : Int} (hf : aftF s l r i = f) (hn : f ≠ 0) : aftFault s l r = f := by
  have := firstF_at hi hS (by rw [hf]; exact hn)
  rw [aftFault, if_neg (by rw [h0]; decide), if_neg h3, if_pos (by rw [this, hf]; exact hn), this, hf]
theorem aftFault_ok (h0 : copiesFault s l = 0) (h3 : ¬ 3000 < r.length) (hS : ∀ j, j < r.length → aftF s l r j = 0) : aftFault s l r = if 3000 < (aftL l r).length then 2 else 0 := by
  rw [aftFault, if_neg (by rw [h0]; decide), if_neg h3, if_neg (by rw [firstF_ok hS]; decide)]
end
end Go.Proofs.YtnkdcmibafjplaaGreatDoor
