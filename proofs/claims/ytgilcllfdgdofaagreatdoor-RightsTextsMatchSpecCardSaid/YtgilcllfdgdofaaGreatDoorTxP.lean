/-
  Rights as a text: what is written, and that it is read as the rights: plain words.
-/
import Derived.Test.YtgilcllfdgdofaaGreatDoorRdP
import Derived.Lib.ItoaNum
import Derived.Lib.Join
namespace Go.Proofs.YtgilcllfdgdofaaGreatDoor
open Go.RowKit
set_option linter.unusedVariables false
set_option linter.unusedSimpArgs false

/-! ### Numerals -/
theorem dig_of {d : Nat} (h : d < 10) : digSet.contains (UInt8.ofNat (48 + d)) = true ∧ Lib.digitVal (UInt8.ofNat (48 + d)) = some d := by
  have : d = 0 ∨ d = 1 ∨ d = 2 ∨ d = 3 ∨ d = 4 ∨ d = 5 ∨ d = 6 ∨ d = 7 ∨ d = 8 ∨ d = 9 := by omega
  rcases this with rfl | rfl | rfl | rfl | rfl | rfl | rfl | rfl | rfl | rfl <;> exact ⟨rfl, rfl⟩
theorem dec_snoc : ∀ (l : List UInt8) (acc n d : Nat) (b : UInt8), Lib.decFrom acc l = some n → Lib.digitVal b = some d → Lib.decFrom acc (l ++ [b]) = some (n * 10 + d)
  | [], acc, n, d, b, h, hb => by
    have : acc = n := by simpa [Lib.decFrom] using h
    subst this
    simp [Lib.decFrom, hb]
  | c :: l, acc, n, d, b, h, hb => by
    rw [List.cons_append]
    unfold Lib.decFrom at h ⊢
    cases hc : Lib.digitVal c with
    | none => rw [hc] at h; cases h
    | some e => rw [hc] at h; exact dec_snoc l _ n d b h hb
theorem dd_small {u : Nat} (h : u < 10) : Lib.decDigits u = [UInt8.ofNat (48 + u)] := by rw [Lib.decDigits, dif_pos h]
theorem dd_big {u : Nat} (h : ¬ u < 10) : Lib.decDigits u = Lib.decDigits (u / 10) ++ [UInt8.ofNat (48 + u % 10)] := by rw [Lib.decDigits, dif_neg h]
theorem dd_facts : ∀ (k u : Nat), u < 10 ^ (k + 1) → (Lib.decDigits u).all (digSet.contains ·) = true ∧ Lib.decFrom 0 (Lib.decDigits u) = some u ∧ 1 ≤ (Lib.decDigits u).length ∧ (Lib.decDigits u).length ≤ k + 1 ∧ (1 ≤ u → (Lib.decDigits u).head? ≠ some 48)
  | 0, u, h => by
    have h : u < 10 := by simpa using h
    obtain ⟨h1, h2⟩ := dig_of h
    rw [dd_small h]
    refine ⟨by simp only [List.all_cons, List.all_nil, Bool.and_true]; exact h1, by rw [Lib.decFrom, h2]; show Lib.decFrom (0 * 10 + u) [] = some u; rw [Lib.decFrom]; congr 1; omega, by simp, by simp, fun hu e => ?_⟩
    simp only [List.head?_cons, Option.some.injEq] at e
    rw [e] at h2
    have : some 0 = some u := h2
    injection this with this
    omega
  | k + 1, u, h => by
    by_cases h10 : u < 10
    · have := dd_facts 0 u (by simpa using h10)
      exact ⟨this.1, this.2.1, this.2.2.1, by have := this.2.2.2.1; omega, this.2.2.2.2⟩
    · have hu : u / 10 < 10 ^ (k + 1) := by rw [Nat.pow_succ] at h; omega
      obtain ⟨a1, a2, a3, a4, a5⟩ := dd_facts k (u / 10) hu
      obtain ⟨h1, h2⟩ := dig_of (Nat.mod_lt u (show 0 < 10 by decide))
      rw [dd_big h10]
      refine ⟨by rw [List.all_append, a1]; simp only [List.all_cons, List.all_nil, Bool.and_true, Bool.true_and]; exact h1, ?_, by simp, by simp; omega, fun _ e => ?_⟩
      · rw [dec_snoc _ _ _ _ _ a2 h2]
        congr 1; omega
      · rw [List.head?_append] at e
        have := a5 (by omega)
        cases hh : (Lib.decDigits (u / 10)).head? with
        | none =>
          cases hd : Lib.decDigits (u / 10) with
          | nil => rw [hd] at a3; simp at a3
          | cons _ _ => rw [hd] at hh; simp at hh
        | some x => rw [hh] at e this; exact this e
theorem itoa_num {n : Int} (h0 : 0 ≤ n) (h1 : n ≤ 253402300800) : numB (Lib.itoa n) = true ∧ numV (Lib.itoa n) = n := by
  obtain ⟨u, rfl⟩ : ∃ u : Nat, n = (u : Int) := ⟨n.toNat, by omega⟩
  have e : Lib.itoa (u : Int) = Lib.decDigits u := by unfold Lib.itoa; rw [if_neg (by omega), Int.toNat_natCast]
  rw [e]
  have h12 : (10 : Nat) ^ (11 + 1) = 1000000000000 := by decide
  obtain ⟨a1, a2, a3, a4, a5⟩ := dd_facts 11 u (by rw [h12]; omega)
  have hb : numB (Lib.decDigits u) = true := by
    unfold numB
    rw [decide_eq_true a3, decide_eq_true a4, a1]
    by_cases hu : 1 ≤ u
    · rw [decide_eq_false (a5 hu)]; rfl
    · have : u = 0 := by omega
      subst this
      rw [dd_small (by decide)]; rfl
  refine ⟨hb, ?_⟩
  obtain ⟨c, r, hcr⟩ : ∃ c r, Lib.decDigits u = c :: r := by
    cases hd : Lib.decDigits u with
    | nil => rw [hd] at a3; simp at a3
    | cons c r => exact ⟨c, r, rfl⟩
  have hc : digSet.contains c = true := by rw [hcr, List.all_cons, Bool.and_eq_true] at a1; exact a1.1
  obtain ⟨_, _, _, e45, e43⟩ := dig_val c hc
  unfold numV
  rw [hcr] at a2 ⊢
  unfold Lib.atoi
  dsimp only
  rw [if_neg (by simpa using e45), if_neg (by simpa using e43)]
  unfold Lib.decNat
  rw [if_neg (by simp), a2]
  rfl
theorem itoa_len12 {n : Int} (h0 : 0 ≤ n) (h1 : n ≤ 253402300800) : (Lib.itoa n).length ≤ 12 := by
  have h := (itoa_num h0 h1).1
  unfold numB at h
  rw [Bool.and_eq_true, Bool.and_eq_true, decide_eq_true_iff, decide_eq_true_iff] at h
  exact h.1.2
/-! ### A line -/
def dashS (s : List UInt8) : List UInt8 := if s = [] then [45] else s
def kwOf (k : Int) : List UInt8 := if k = 1 then kAll else if k = 2 then kTeam else if k = 3 then kHouse else kNone
theorem kw_of {k : Int} (h1 : 1 ≤ k) (h4 : k ≤ 4) : kindOf (kwOf k) = k := by
  have : k = 1 ∨ k = 2 ∨ k = 3 ∨ k = 4 := by omega
  rcases this with rfl | rfl | rfl | rfl <;> rfl
theorem kw_len (k : Int) : (kwOf k).length ≤ 5 := by
  unfold kwOf
  repeat' split
  all_goals decide
def wordsR (r : Rgt) : List (List UInt8) := [r.id, dashS r.pre, Lib.itoa r.frm, Lib.itoa r.to, Lib.itoa r.st, Lib.itoa r.en, Lib.itoa r.made, kwOf r.kind, dashS r.team]
def rgT (r : Rgt) : List UInt8 := r.id ++ 32 :: (dashS r.pre ++ 32 :: (Lib.itoa r.frm ++ 32 :: (Lib.itoa r.to ++ 32 :: (Lib.itoa r.st ++ 32 :: (Lib.itoa r.en ++ 32 :: (Lib.itoa r.made ++ 32 :: (kwOf r.kind ++ 32 :: dashS r.team)))))))
theorem join_words (r : Rgt) : Lib.join (wordsR r) [32] = rgT r := by
  unfold wordsR rgT
  simp [Lib.join]
theorem isNm_word {n : List UInt8} (h : isNm n = true) : wordB n = true := by
  have hl := nm_len h
  unfold isNm at h
  rw [Bool.and_eq_true, Bool.and_eq_true] at h
  have hall := h.2
  rw [Bool.and_eq_true] at hall
  unfold wordB
  rw [Bool.and_eq_true, decide_eq_true_iff]
  refine ⟨?_, hl.1⟩
  rw [List.all_eq_true]
  intro x hx
  have h2 := List.all_eq_true.1 hall.2 x hx
  rw [nmSet_is] at h2
  unfold rowByte
  simp only [Bool.or_eq_true, Bool.and_eq_true, decide_eq_true_iff] at h2 ⊢
  omega
theorem isNm_dash {n : List UInt8} (h : isNm n = true) : n ≠ [45] := by
  rintro rfl
  exact absurd h (by decide)
/-- What a right is, of which the text is written. -/
structure ROk (r : Rgt) : Prop where
  id : isNm r.id = true
  pre : isPre r.pre = true
  frm : 0 ≤ r.frm ∧ r.frm ≤ 253402300800
  to : 0 ≤ r.to ∧ r.to ≤ 253402300800
  st : 0 ≤ r.st ∧ r.st ≤ 253402300800
  en : 0 ≤ r.en ∧ r.en ≤ 253402300800
  made : 0 ≤ r.made ∧ r.made ≤ 253402300800
  kind : 1 ≤ r.kind ∧ r.kind ≤ 4
  team : r.team = [] ∨ isNm r.team = true
theorem rg_ok {r : Rgt} (h : rgF r = 0) : ROk r := by
  unfold rgF at h
  split at h
  · cases h
  rename_i h1
  split at h
  · cases h
  rename_i h2
  unfold rgRest at h
  split at h
  · cases h
  rename_i h3
  split at h
  · cases h
  split at h
  · cases h
  rename_i h5
  split at h
  · cases h
  split at h
  · cases h
  rename_i h7
  have h3 : rgRange r = true := by simpa using h3
  unfold rgRange withinB at h3
  simp only [Bool.and_eq_true, decide_eq_true_iff] at h3
  have h5 : withinB r.kind 1 4 = true := by simpa using h5
  unfold withinB at h5
  rw [decide_eq_true_iff] at h5
  obtain ⟨a1, a2, a3, a4, a5⟩ := h3
  exact ⟨by simpa using h1, by simpa using h2, by omega, by omega, by omega, by omega, by omega, h5, by
    by_cases e : r.team = []
    · exact .inl e
    · refine .inr ?_
      cases hn : isNm r.team with
      | true => rfl
      | false => exact absurd ⟨e, hn⟩ h7⟩
theorem dash_word {s : List UInt8} (h : s.all rowByte = true) : wordB (dashS s) = true := by
  unfold dashS
  split
  · rfl
  · rename_i e
    unfold wordB
    rw [h, decide_eq_true (show 1 ≤ s.length by cases s with | nil => exact absurd rfl e | cons _ _ => simp)]; rfl
theorem undash_dash {s : List UInt8} (h : s ≠ [45]) : unDash (dashS s) = s := by
  unfold dashS
  split
  · rename_i e; rw [e]; rfl
  · exact if_neg h
theorem pre_all {s : List UInt8} (h : isPre s = true) : s.all rowByte = true ∧ s.length ≤ 2100 := by
  unfold isPre at h
  rw [Bool.and_eq_true] at h
  have := of_decide_eq_true h.2
  exact ⟨h.1, by omega⟩
theorem team_word {s : List UInt8} (h : s = [] ∨ isNm s = true) : wordB (dashS s) = true ∧ s ≠ [45] ∧ s.length ≤ 40 := by
  rcases h with rfl | h
  · exact ⟨rfl, by decide, by simp⟩
  · have hw := isNm_word h
    refine ⟨?_, isNm_dash h, (nm_len h).2⟩
    unfold wordB at hw
    rw [Bool.and_eq_true] at hw
    exact dash_word hw.1
theorem dash_len (s : List UInt8) : (dashS s).length ≤ s.length + 1 := by unfold dashS; split <;> simp_all
theorem rgT_len {r : Rgt} (h : ROk r) : (rgT r).length ≤ 2290 := by
  have a1 := (nm_len h.id).2
  have a2 := (pre_all h.pre).2
  have a3 := dash_len r.pre
  have b1 := itoa_len12 h.frm.1 h.frm.2
  have b2 := itoa_len12 h.to.1 h.to.2
  have b3 := itoa_len12 h.st.1 h.st.2
  have b4 := itoa_len12 h.en.1 h.en.2
  have b5 := itoa_len12 h.made.1 h.made.2
  have c1 := kw_len r.kind
  have c2 := (team_word h.team).2.2
  have c3 := dash_len r.team
  unfold rgT
  simp
  omega
theorem line_back {r : Rgt} (h : ROk r) (hp : r.pre ≠ [45]) : lineR (rgT r) = some r ∧ (10 : UInt8) ∉ rgT r := by
  have w1 := isNm_word h.id
  have w2 := dash_word (pre_all h.pre).1
  obtain ⟨n1, v1⟩ := itoa_num h.frm.1 h.frm.2
  obtain ⟨n2, v2⟩ := itoa_num h.to.1 h.to.2
  obtain ⟨n3, v3⟩ := itoa_num h.st.1 h.st.2
  obtain ⟨n4, v4⟩ := itoa_num h.en.1 h.en.2
  obtain ⟨n5, v5⟩ := itoa_num h.made.1 h.made.2
  have hk := kw_of h.kind.1 h.kind.2
  have w8 := kind_word (s := kwOf r.kind) (by rw [hk]; have := h.kind.1; omega)
  obtain ⟨w9, hd, _⟩ := team_word h.team
  have u1 := word_no w1
  have u2 := word_no w2
  have u3 := word_no (num_word n1)
  have u4 := word_no (num_word n2)
  have u5 := word_no (num_word n3)
  have u6 := word_no (num_word n4)
  have u7 := word_no (num_word n5)
  have u8 := word_no w8
  have u9 := word_no w9
  have e : sg (rgT r) = wordsR r := by
    unfold rgT wordsR
    rw [sg_cons u1.1, sg_cons u2.1, sg_cons u3.1, sg_cons u4.1, sg_cons u5.1, sg_cons u6.1, sg_cons u7.1, sg_cons u8.1, sg_one u9.1]
  refine ⟨?_, ?_⟩
  · have ho : lineOk r.id (dashS r.pre) (Lib.itoa r.frm) (Lib.itoa r.to) (Lib.itoa r.st) (Lib.itoa r.en) (Lib.itoa r.made) (kwOf r.kind) (dashS r.team) = true := by
      unfold lineOk
      rw [w1, w2, w9, n1, n2, n3, n4, n5, hk, decide_eq_true (show r.kind ≠ 0 by have := h.kind.1; omega)]
      rfl
    rw [lineR_9 e, if_pos ho]
    unfold mkR
    rw [v1, v2, v3, v4, v5, hk, undash_dash hp, undash_dash hd]
  · unfold rgT
    simp only [List.mem_append, List.mem_cons]
    have h32 : ¬ (10 : UInt8) = 32 := by decide
    rintro (h | h | h | h | h | h | h | h | h | h | h | h | h | h | h | h | h)
    · exact u1.2.1 h
    · exact h32 h
    · exact u2.2.1 h
    · exact h32 h
    · exact u3.2.1 h
    · exact h32 h
    · exact u4.2.1 h
    · exact h32 h
    · exact u5.2.1 h
    · exact h32 h
    · exact u6.2.1 h
    · exact h32 h
    · exact u7.2.1 h
    · exact h32 h
    · exact u8.2.1 h
    · exact h32 h
    · exact u9.2.1 h
/-! ### The text -/
def textL (l : List Rgt) : List UInt8 := l.flatMap fun r => rgT r ++ [10]
theorem textL_succ {l : List Rgt} {k : Nat} (hk : k < l.length) : textL (l.take (k + 1)) = textL (l.take k) ++ (rgT l[k] ++ [10]) := by
  unfold textL
  rw [List.take_succ_eq_append_getElem hk, List.flatMap_append]
  simp
theorem alo_ok {l : List Rgt} (h : aloFault l = 0) : l.length ≤ 300 ∧ ∀ r ∈ l, ROk r := by
  unfold aloFault at h
  split at h
  · cases h
  rename_i hl
  refine ⟨by omega, fun r hr => ?_⟩
  obtain ⟨i, hi, rfl⟩ := List.getElem_of_mem hr
  have hf := firstF_all h i hi
  unfold aloF at hf
  rw [getD_at _ _ hi] at hf
  split at hf
  · cases hf
  split at hf
  · cases hf
  exact rg_ok hf
theorem textL_len {l : List Rgt} (h : ∀ r ∈ l, ROk r) : ∀ k, k ≤ l.length → (textL (l.take k)).length ≤ 2300 * k
  | 0, _ => by simp [textL]
  | k + 1, hk => by
    have h2 := textL_len h k (by omega)
    have h3 := rgT_len (h l[k] (List.getElem_mem _))
    rw [textL_succ (show k < l.length by omega)]
    simp
    omega
theorem text_reads {text : List UInt8} : ∀ (l done : List Rgt), (∀ r ∈ l, ROk r ∧ r.pre ≠ [45]) → At text done (textL l) → At text (done ++ l) []
  | [], done, _, h => by simpa [textL] using h
  | r :: l, done, hr, h => by
    obtain ⟨h1, h2⟩ := line_back (hr r (List.mem_cons_self ..)).1 (hr r (List.mem_cons_self ..)).2
    have e : textL (r :: l) = rgT r ++ 10 :: textL l := by simp [textL]
    rw [e] at h
    have h3 := text_reads l (done ++ [r]) (fun x hx => hr x (List.mem_cons_of_mem _ hx)) (h.next h2 h1)
    simpa using h3
def hasDash (l : List Rgt) : Bool := l.any fun r => decide (r.pre = [45])
/-- What Text answers. -/
def txOut (l : List Rgt) : List UInt8 × Int := if aloFault l = 0 then (if hasDash l = true then ([], 3) else if 300000 < (textL l).length then ([], 2) else (textL l, 0)) else ([], aloFault l)
theorem tx_bad {l : List Rgt} (h : ¬ aloFault l = 0) : txOut l = ([], aloFault l) := if_neg h
theorem tx_dash {l : List Rgt} (h : aloFault l = 0) (hd : hasDash l = true) : txOut l = ([], 3) := by unfold txOut; rw [if_pos h, if_pos hd]
theorem tx_large {l : List Rgt} (h : aloFault l = 0) (hd : hasDash l = false) (hl : 300000 < (textL l).length) : txOut l = ([], 2) := by unfold txOut; rw [if_pos h, if_neg (by rw [hd]; decide), if_pos hl]
theorem tx_ok {l : List Rgt} (h : aloFault l = 0) (hd : hasDash l = false) (hl : ¬ 300000 < (textL l).length) : txOut l = (textL l, 0) := by unfold txOut; rw [if_pos h, if_neg (by rw [hd]; decide), if_neg hl]
theorem tx_reads {l : List Rgt} (h : (txOut l).2 = 0) : rrOut (txOut l).1 = (l, 0, 0) := by
  by_cases ha : aloFault l = 0
  case neg => rw [tx_bad ha] at h; exact absurd h ha
  cases hd : hasDash l with
  | true => rw [tx_dash ha hd] at h; exact absurd h (by decide)
  | false =>
  by_cases hl : 300000 < (textL l).length
  · rw [tx_large ha hd hl] at h; exact absurd h (by decide)
  rw [tx_ok ha hd hl]
  have hr : ∀ r ∈ l, ROk r ∧ r.pre ≠ [45] := fun r hr => ⟨(alo_ok ha).2 r hr, fun e => by
    have : hasDash l = true := by
      unfold hasDash
      rw [List.any_eq_true]
      exact ⟨r, hr, by rw [e]; rfl⟩
    rw [hd] at this; cases this⟩
  have hA := text_reads l [] hr (At.start (textL l))
  rw [List.nil_append] at hA
  exact rr_ok hl hA.done ha
end Go.Proofs.YtgilcllfdgdofaaGreatDoor
