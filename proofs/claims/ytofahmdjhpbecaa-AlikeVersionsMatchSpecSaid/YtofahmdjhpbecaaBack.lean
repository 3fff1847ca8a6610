/-
  What is put together of the pieces of bytes is these bytes, also over the pieces' bytes: plain facts.
-/
import Derived.Test.YtofahmdjhpbecaaReadD
namespace Go.Proofs.Ytofahmdjhpbecaa
open Go.RowKit
set_option linter.unusedVariables false
set_option linter.unusedSimpArgs false

theorem lcp_take : ∀ a b : List UInt8, a.take (lcp a b) = b.take (lcp a b)
  | [], b => by cases b <;> simp [lcp]
  | x :: xs, [] => by simp [lcp]
  | x :: xs, y :: ys => by
    unfold lcp
    split
    · rename_i h
      rw [List.take_succ_cons, List.take_succ_cons, lcp_take xs ys, h]
    · simp
theorem longK_eq (base b : List UInt8) : ∀ i, (longK base b i).2 = 0 ∨ (longK base b i).2 = lcp (base.drop (longK base b i).1) b
  | 0 => .inl rfl
  | i + 1 => by
    have h := longK_eq base b i
    unfold longK
    split
    · exact .inr rfl
    · exact h
theorem longest_take {base b : List UInt8} (h : 0 < (longest base b).2) : (longest base b).1 + (longest base b).2 ≤ base.length ∧ (base.drop (longest base b).1).take (longest base b).2 = b.take (longest base b).2 := by
  rcases longK_eq base b base.length with h0 | h0
  · exact absurd h0 (by unfold longest at h; omega)
  · have hl := longest_le base b
    have h1 := lcp_le_left (base.drop (longest base b).1) b
    have h2 : (longest base b).2 = lcp (base.drop (longest base b).1) b := h0
    rw [List.length_drop] at h1
    exact ⟨by omega, by conv => lhs; rw [h2]
                        rw [lcp_take, ← h2]⟩

/-- A piece of a base. -/
def CpOk (bl : Nat) (c : Cp) : Prop := (0 < c.n ∧ c.bs = [] ∧ 0 ≤ c.frm ∧ c.frm + c.n ≤ bl) ∨ (c.n = 0 ∧ c.frm = 0 ∧ c.bs ≠ [])
theorem rbOut_app (base : List UInt8) (l m : List Cp) : rbOut base (l ++ m) = rbOut base l ++ rbOut base m := by unfold rbOut; rw [List.flatMap_append]
theorem addByte_ok {base : List UInt8} {out : List Cp} {x : UInt8} (h : ∀ c ∈ out, CpOk base.length c) : (∀ c ∈ addByte out x, CpOk base.length c) ∧ rbOut base (addByte out x) = rbOut base out ++ [x] := by
  rcases List.eq_nil_or_concat out with rfl | ⟨init, cp, rfl⟩
  · rw [addByte_nil]
    exact ⟨fun c hc => by rw [List.mem_singleton.1 hc]; exact .inr ⟨rfl, rfl, by simp⟩, by simp [rbOut]⟩
  · rw [List.concat_eq_append] at *
    by_cases h0 : cp.n = 0
    · rw [addByte_zero _ _ _ h0]
      have hc := h cp (by simp)
      refine ⟨fun c hc' => ?_, ?_⟩
      · rcases List.mem_append.1 hc' with h1 | h1
        · exact h c (List.mem_append_left _ h1)
        · rw [List.mem_singleton.1 h1]
          rcases hc with ⟨q, _⟩ | ⟨_, q, _⟩
          · omega
          · exact .inr ⟨h0, q, by simp⟩
      · rw [rbOut_app, rbOut_app]; simp [rbOut]
    · rw [addByte_copy _ _ _ h0]
      refine ⟨fun c hc' => ?_, ?_⟩
      · rcases List.mem_append.1 hc' with h1 | h1
        · exact h c h1
        · rw [List.mem_singleton.1 h1]; exact .inr ⟨rfl, rfl, by simp⟩
      · rw [rbOut_app]; simp [rbOut]
theorem deltaGo_ok (base : List UInt8) : ∀ (n : Nat) (b : List UInt8) (out : List Cp), b.length ≤ n → (∀ c ∈ out, CpOk base.length c) → (∀ c ∈ deltaGo base b out, CpOk base.length c) ∧ rbOut base (deltaGo base b out) = rbOut base out ++ b
  | _, [], out, _, h => by rw [deltaGo]; exact ⟨h, by simp⟩
  | 0, x :: t, out, hl, h => by simp at hl
  | n + 1, x :: t, out, hl, h => by
    by_cases h8 : 8 ≤ (longest base (x :: t)).2
    · rw [deltaGo_copy (by simp) h8]
      have ht := longest_take (base := base) (b := x :: t) (by omega)
      have ih := deltaGo_ok base n ((x :: t).drop (longest base (x :: t)).2) (out ++ [⟨(longest base (x :: t)).1, (longest base (x :: t)).2, []⟩]) (by simp only [List.length_drop, List.length_cons] at hl ⊢; omega) (fun c hc => by
        rcases List.mem_append.1 hc with h1 | h1
        · exact h c h1
        · rw [List.mem_singleton.1 h1]; exact .inl ⟨by simp; omega, rfl, by simp, by simp; omega⟩)
      refine ⟨ih.1, ?_⟩
      rw [ih.2, rbOut_app, List.append_assoc]
      congr 1
      simp only [rbOut, List.flatMap_cons, List.flatMap_nil, List.append_nil, Int.toNat_natCast]
      rw [ht.2, List.take_append_drop]
    · rw [deltaGo_byte h8]
      have ha := addByte_ok (x := x) h
      have ih := deltaGo_ok base n t (addByte out x) (by simp at hl; omega) ha.1
      refine ⟨ih.1, ?_⟩
      rw [ih.2, ha.2]; simp
theorem deltaL_ok (base b : List UInt8) : (∀ c ∈ deltaL base b, CpOk base.length c) ∧ rbOut base (deltaL base b) = b := by
  have := deltaGo_ok base b.length b [] (Nat.le_refl _) (fun c hc => by simp at hc)
  exact ⟨this.1, by rw [show deltaL base b = deltaGo base b [] from rfl, this.2]; simp [rbOut]⟩
theorem rb_total {base : List UInt8} : ∀ {l : List Cp}, (∀ c ∈ l, CpOk base.length c) → rbTotal l = (rbOut base l).length ∧ l.length ≤ (rbOut base l).length ∧ rbChk base.length l = 0
  | [], _ => by simp [rbTotal, rbOut, rbChk]
  | c :: l, h => by
    have ih := rb_total (l := l) (fun d hd => h d (List.mem_cons_of_mem _ hd))
    have hc := h c (by simp)
    have e1 : rbTotal (c :: l) = (c.n.toNat + c.bs.length) + rbTotal l := by simp [rbTotal]
    have e2 : (rbOut base (c :: l)).length = ((base.drop c.frm.toNat).take c.n.toNat ++ c.bs).length + (rbOut base l).length := by simp [rbOut]; omega
    have e3 : ((base.drop c.frm.toNat).take c.n.toNat ++ c.bs).length = c.n.toNat + c.bs.length := by
      rw [List.length_append, List.length_take, List.length_drop]
      rcases hc with ⟨q1, q2, q3, q4⟩ | ⟨q1, q2, q3⟩ <;> omega
    have e4 : 0 < c.n.toNat + c.bs.length := by
      rcases hc with ⟨q1, q2, q3, q4⟩ | ⟨q1, q2, q3⟩
      · omega
      · have := List.length_pos_iff.2 q3; omega
    have hg : cpGood c.frm c.n c.bs.length := by
      rcases hc with ⟨q1, q2, q3, q4⟩ | ⟨q1, q2, q3⟩
      · exact .inl ⟨q1, by rw [q2]; rfl⟩
      · exact .inr ⟨q1, q2, List.length_pos_iff.2 q3⟩
    have hr : ¬ (c.frm < 0 ∨ (base.length : Int) < c.frm ∨ (base.length : Int) - c.frm < c.n) := by
      rcases hc with ⟨q1, q2, q3, q4⟩ | ⟨q1, q2, q3⟩ <;> omega
    refine ⟨by omega, by rw [List.length_cons]; omega, ?_⟩
    rw [rbChk, if_pos hg, if_neg hr]; exact ih.2.2
/-- Rebuilt gives back what the pieces are of. -/
theorem rb_back {base b : List UInt8} (h1 : base.length ≤ 3000) (h2 : b.length ≤ 3000) : rbFault base (deltaL base b) = 0 ∧ rbRes base (deltaL base b) = b := by
  have hd := deltaL_ok base b
  have ht := rb_total hd.1
  rw [hd.2] at ht
  have hf : rbFault base (deltaL base b) = 0 := by
    rw [rbFault, if_neg (by omega), if_neg (by rw [ht.2.2]; decide), if_neg (by omega)]
  exact ⟨hf, by rw [rbRes, if_pos hf]; exact hd.2⟩
theorem bs_le {base : List UInt8} {l : List Cp} {c : Cp} (h : c ∈ l) : c.bs.length ≤ (rbOut base l).length := by
  induction l with
  | nil => cases h
  | cons d l ih =>
    have e : rbOut base (d :: l) = ((base.drop d.frm.toNat).take d.n.toNat ++ d.bs) ++ rbOut base l := by simp [rbOut]
    rw [e, List.length_append, List.length_append]
    rcases List.mem_cons.1 h with rfl | h
    · omega
    · have := ih h; omega
theorem deltaL_range {base b : List UInt8} (h1 : base.length ≤ 3000) (h2 : b.length ≤ 3000) : ∀ c ∈ deltaL base b, cpGood c.frm c.n c.bs.length ∧ ¬ dbRange c := by
  intro c hc
  have hd := deltaL_ok base b
  have hb := bs_le (base := base) hc
  rw [hd.2] at hb
  rcases hd.1 c hc with ⟨q1, q2, q3, q4⟩ | ⟨q1, q2, q3⟩
  · exact ⟨.inl ⟨q1, by rw [q2]; rfl⟩, by unfold dbRange; omega⟩
  · exact ⟨.inr ⟨q1, q2, List.length_pos_iff.2 q3⟩, by unfold dbRange; omega⟩
theorem deltaL_len {base b : List UInt8} : (deltaL base b).length ≤ b.length := by
  have hd := deltaL_ok base b
  have ht := rb_total hd.1
  rw [hd.2] at ht
  exact ht.2.1
theorem dbChk_zero : ∀ {l : List Cp}, (∀ c ∈ l, cpGood c.frm c.n c.bs.length ∧ ¬ dbRange c) → dbChk l = 0
  | [], _ => rfl
  | c :: l, h => by
    have hc := h c (by simp)
    rw [dbChk, if_pos hc.1, if_neg hc.2]
    exact dbChk_zero (fun d hd => h d (List.mem_cons_of_mem _ hd))
theorem db_back {base b : List UInt8} (h1 : base.length ≤ 3000) (h2 : b.length ≤ 3000) : dbFault (deltaL base b) = 0 ∨ dbFault (deltaL base b) = 2 := by
  have hl := deltaL_len (base := base) (b := b)
  rw [dbFault, if_neg (by omega), if_neg (by rw [dbChk_zero (deltaL_range h1 h2)]; decide)]
  split
  · exact .inr rfl
  · exact .inl rfl

theorem getB_two (x : UInt8) (n : Nat) (h : n < 65536) (r : List UInt8) : getB (x :: (twoB n ++ r)) 1 = n := by
  simp only [getB, twoB, List.cons_append, List.nil_append, List.getD_cons_succ, List.getD_cons_zero]
  rw [UInt8.toNat_ofNat', UInt8.toNat_ofNat']; omega
theorem getB_two3 (x : UInt8) (m n : Nat) (h : n < 65536) (r : List UInt8) : getB (x :: (twoB m ++ twoB n ++ r)) 3 = n := by
  simp only [getB, twoB, List.cons_append, List.nil_append, List.getD_cons_succ, List.getD_cons_zero]
  rw [UInt8.toNat_ofNat', UInt8.toNat_ofNat']; omega
theorem rc_back {c : Cp} (hg : cpGood c.frm c.n c.bs.length) (hr : ¬ dbRange c) (r : List UInt8) : rcL (cpBytes c ++ r) = .ok c (cpBytes c).length := by
  obtain ⟨frm, n, bs⟩ := c
  unfold dbRange at hr
  simp only [] at hg hr
  rcases hg with ⟨h1, h2⟩ | ⟨h1, h2, h3⟩
  · have hb : bs = [] := List.eq_nil_of_length_eq_zero h2
    subst hb
    obtain ⟨f, rfl⟩ := Int.eq_ofNat_of_zero_le (a := frm) (by omega)
    obtain ⟨m, rfl⟩ := Int.eq_ofNat_of_zero_le (a := n) (by omega)
    have e : cpBytes ⟨(f : Int), (m : Int), []⟩ = 1 :: (twoB f ++ twoB m) := by rw [cpBytes, if_pos h1]; simp
    rw [e, List.cons_append]
    have g1 := getB_two 1 f (by omega) (twoB m ++ r)
    rw [← List.append_assoc] at g1
    have hh : (1 :: (twoB f ++ twoB m ++ r)).getD 0 0 = (1 : UInt8) := rfl
    rw [rcL, if_pos hh, if_neg (by simp [twoB]), g1, getB_two3 1 f m (by omega) r]
    simp [twoB]
  · subst h1 h2
    have e : cpBytes ⟨0, 0, bs⟩ = 2 :: (twoB bs.length ++ bs) := by rw [cpBytes, if_neg (by simp)]
    have g1 := getB_two 2 bs.length (by omega) (bs ++ r)
    rw [e, List.cons_append, List.append_assoc]
    have hh : (2 :: (twoB bs.length ++ (bs ++ r))).getD 0 0 = (2 : UInt8) := rfl
    rw [rcL, if_neg (by rw [hh]; decide), if_pos hh, if_neg (by simp [twoB]), g1, if_neg (by simp [twoB]; omega)]
    have e2 : ((2 :: (twoB bs.length ++ (bs ++ r))).drop 3).take bs.length = bs := by simp [twoB]
    rw [e2]
    simp [twoB]; omega
theorem rd_back : ∀ (l : List Cp) (out : List Cp), (∀ c ∈ l, cpGood c.frm c.n c.bs.length ∧ ¬ dbRange c) → rdGo (dBytes l) out = .ok (out ++ l)
  | [], out, _ => by rw [show dBytes [] = [] from rfl, rdGo_nil]; simp
  | c :: l, out, h => by
    have hc := h c (by simp)
    have e : dBytes (c :: l) = cpBytes c ++ dBytes l := by simp [dBytes]
    have hrc := rc_back hc.1 hc.2 (dBytes l)
    have hpos := rcL_pos hrc
    rw [e, rdGo_ok (fun e2 => by rw [e2] at hrc; simp [rcL] at hrc) hrc, List.drop_left, rd_back l _ (fun d hd => h d (List.mem_cons_of_mem _ hd))]
    simp
theorem any_good {l : List Cp} (h : ∀ c ∈ l, cpGood c.frm c.n c.bs.length ∧ ¬ dbRange c) : l.any cpBad = false := by
  rw [List.any_eq_false]
  intro c hc
  have := h c hc
  unfold cpBad
  rw [decide_eq_true_eq]
  unfold dbRange at this
  rintro (q | q | q | q)
  · exact q this.1
  · omega
  · omega
  · omega
/-- ReadDelta gives back pieces. -/
theorem rd_res {l : List Cp} (h : ∀ c ∈ l, cpGood c.frm c.n c.bs.length ∧ ¬ dbRange c) (hl : l.length ≤ 3000) (hb : (dBytes l).length ≤ 20000) : rdFault (dBytes l) = 0 ∧ rdAt (dBytes l) = 0 ∧ rdOut (dBytes l) = l := by
  have hg := rd_back l [] h
  rw [List.nil_append] at hg
  have ha := any_good h
  refine ⟨?_, ?_, ?_⟩
  · rw [rdFault, if_neg (by omega), hg]; simp only [ha, Bool.false_eq_true, if_false]; rw [if_neg (by omega)]
  · rw [rdAt, if_neg (by omega), hg]
  · rw [rdOut, if_neg (by omega), hg]; simp only [ha, Bool.false_eq_true, if_false]; rw [if_neg (by omega)]
end Go.Proofs.Ytofahmdjhpbecaa
