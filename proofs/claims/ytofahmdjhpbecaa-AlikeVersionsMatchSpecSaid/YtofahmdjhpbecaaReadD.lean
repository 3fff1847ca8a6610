/-
  'ReadDelta' of package alike.
-/
import Derived.Test.YtofahmdjhpbecaaProg
import Derived.Test.YtofahmdjhpbecaaRead
import Derived.Test.YtofahmdjhpbecaaList
namespace Go.Proofs.Ytofahmdjhpbecaa
open Go.RowKit
set_option linter.unusedVariables false
set_option linter.unusedSimpArgs false

inductive Rd where
  | ok (l : List Cp)
  | err (left : Nat)
theorem rcL_pos {s : List UInt8} {c : Cp} {n : Nat} (h : rcL s = .ok c n) : 3 ≤ n ∧ n ≤ s.length ∧ n ≤ 3 + c.bs.length + (if c.bs.length = 0 then 2 else 0) := by
  unfold rcL at h
  split at h
  · split at h
    · cases h
    · injection h with h1 h2; subst h1; simp; omega
  · split at h
    · split at h
      · cases h
      · split at h
        · cases h
        · injection h with h1 h2; subst h1
          rw [List.length_take, List.length_drop]
          refine ⟨by omega, by omega, ?_⟩
          split <;> omega
    · cases h
def rdGo (s : List UInt8) (out : List Cp) : Rd :=
  if hs : s = [] then .ok out
  else match h : rcL s with
    | .ok c n => rdGo (s.drop n) (out ++ [c])
    | .short => .err 0
    | .bad => .err s.length
termination_by s.length
decreasing_by
  have := rcL_pos h
  have := List.length_pos_iff.2 hs
  simp only [List.length_drop]; omega
theorem rdGo_nil (out : List Cp) : rdGo [] out = .ok out := by rw [rdGo, dif_pos rfl]
theorem rdGo_ok {s : List UInt8} {out : List Cp} {c : Cp} {n : Nat} (hs : s ≠ []) (h : rcL s = .ok c n) : rdGo s out = rdGo (s.drop n) (out ++ [c]) := by
  rw [rdGo, dif_neg hs]
  split
  · rename_i c' n' h'
    rw [h] at h'; injection h' with h1 h2; subst h1 h2; rfl
  · rename_i h'; rw [h] at h'; cases h'
  · rename_i h'; rw [h] at h'; cases h'
theorem rdGo_short {s : List UInt8} {out : List Cp} (hs : s ≠ []) (h : rcL s = .short) : rdGo s out = .err 0 := by
  rw [rdGo, dif_neg hs]
  split
  · rename_i h'; rw [h] at h'; cases h'
  · rfl
  · rename_i h'; rw [h] at h'; cases h'
theorem rdGo_bad {s : List UInt8} {out : List Cp} (hs : s ≠ []) (h : rcL s = .bad) : rdGo s out = .err s.length := by
  rw [rdGo, dif_neg hs]
  split
  · rename_i h'; rw [h] at h'; cases h'
  · rename_i h'; rw [h] at h'; cases h'
  · rfl
def cpBad (c : Cp) : Bool := decide (¬ cpGood c.frm c.n c.bs.length ∨ 3000 < c.frm ∨ 3000 < c.n ∨ 3000 < c.bs.length)
def rdOut (bs : List UInt8) : List Cp :=
  if 20000 < bs.length then [] else match rdGo bs [] with | .err _ => [] | .ok l => if l.any cpBad = true then [] else if 3000 < l.length then [] else l
def rdAt (bs : List UInt8) : Nat := if 20000 < bs.length then 0 else match rdGo bs [] with | .err r => bs.length - r | .ok _ => 0
def rdFault (bs : List UInt8) : Int :=
  if 20000 < bs.length then 2 else match rdGo bs [] with | .err _ => 10 | .ok l => if l.any cpBad = true then 3 else if 3000 < l.length then 2 else 0
def RdPost (bs : List UInt8) (w : World) (e : Ending) (w' : World) : Prop :=
  ∃ v, e = .returned (.tuple #[v, .int .i64 (rdAt bs), .int .i64 (rdFault bs)]) ∧ (Rp.sl cpRp).ok w' (· < w'.heap.size) [v] (rdOut bs) ∧ Below w.heap.size w w'
section
variable {bs : List UInt8} {w w' : World}
theorem rdPost_large (h : 20000 < bs.length) (hb : Below w.heap.size w w') : RdPost bs w (.returned (.tuple #[.slice none 0 0, .int .i64 0, .int .i64 2])) w' := by
  refine ⟨_, by rw [rdAt, rdFault, if_pos h, if_pos h]; rfl, ?_, hb⟩
  rw [rdOut, if_pos h]; exact Rp.sl_nil _ _ _
theorem rdPost_err {r : Nat} (h0 : ¬ 20000 < bs.length) (h : rdGo bs [] = .err r) (hb : Below w.heap.size w w') : RdPost bs w (.returned (.tuple #[.slice none 0 0, .int .i64 ((bs.length - r : Nat) : Int), .int .i64 10])) w' := by
  refine ⟨_, by rw [rdAt, rdFault, if_neg h0, if_neg h0, h], ?_, hb⟩
  rw [rdOut, if_neg h0, h]; exact Rp.sl_nil _ _ _
theorem rdPost_form {l : List Cp} (h0 : ¬ 20000 < bs.length) (h : rdGo bs [] = .ok l) (h2 : l.any cpBad = true) (hb : Below w.heap.size w w') : RdPost bs w (.returned (.tuple #[.slice none 0 0, .int .i64 0, .int .i64 3])) w' := by
  refine ⟨_, by rw [rdAt, rdFault, if_neg h0, if_neg h0, h]; simp only [h2, if_true]; rfl, ?_, hb⟩
  rw [rdOut, if_neg h0, h]; simp only [h2, if_true]; exact Rp.sl_nil _ _ _
theorem rdPost_many {l : List Cp} (h0 : ¬ 20000 < bs.length) (h : rdGo bs [] = .ok l) (h2 : l.any cpBad = false) (h3 : 3000 < l.length) (hb : Below w.heap.size w w') : RdPost bs w (.returned (.tuple #[.slice none 0 0, .int .i64 0, .int .i64 2])) w' := by
  refine ⟨_, by rw [rdAt, rdFault, if_neg h0, if_neg h0, h]; simp only [h2, Bool.false_eq_true, if_false, if_pos h3]; rfl, ?_, hb⟩
  rw [rdOut, if_neg h0, h]; simp only [h2, Bool.false_eq_true, if_false, if_pos h3]; exact Rp.sl_nil _ _ _
theorem rdPost_good {l : List Cp} {v : Value} (h0 : ¬ 20000 < bs.length) (h : rdGo bs [] = .ok l) (h2 : l.any cpBad = false) (h3 : ¬ 3000 < l.length) (hv : (Rp.sl cpRp).ok w' (· < w'.heap.size) [v] l) (hb : Below w.heap.size w w') : RdPost bs w (.returned (.tuple #[v, .int .i64 0, .int .i64 0])) w' := by
  refine ⟨_, by rw [rdAt, rdFault, if_neg h0, if_neg h0, h]; simp only [h2, Bool.false_eq_true, if_false, if_neg h3]; rfl, ?_, hb⟩
  rw [rdOut, if_neg h0, h]; simp only [h2, Bool.false_eq_true, if_false, if_neg h3]; exact hv
end
theorem any_snoc (l : List Cp) (c : Cp) : (l ++ [c]).any cpBad = (l.any cpBad || cpBad c) := by simp
theorem rcL_small {s : List UInt8} {c : Cp} {n : Nat} (h : rcL s = .ok c n) : 0 ≤ c.frm ∧ c.frm < 65536 ∧ 0 ≤ c.n ∧ c.n < 65536 ∧ c.bs.length < 65536 := by
  have g1 := getB_lt s 1
  have g3 := getB_lt s 3
  unfold rcL at h
  split at h
  · split at h
    · cases h
    · injection h with h1 h2; subst h1; simp; omega
  · split at h
    · split at h
      · cases h
      · split at h
        · cases h
        · injection h with h1 h2; subst h1
          rw [List.length_take]; simp; omega
    · cases h

set_option maxRecDepth 100000 in
set_option maxHeartbeats 4000000 in
theorem readDelta_any (v : Value) (bs : List UInt8) (w : World) (h : (Rp.sl Rp.u8).ok w (· < w.heap.size) [v] bs) :
    Calls Try.prog 43 #[v] w (RdPost bs w) := by
  obtain ⟨A, c, rfl, hl, hc, _⟩ := Rp.sl_open h
  unfold maxLen at hc
  have H := Lib.hid h
  clear h
  by_cases hbig : 20000 < bs.length
  · have HP := Lib.hid (rdPost_large (w := w) (w' := w) hbig (Below.refl _ _))
    go_enter Try.func43, Try.ntmps43
    go_wp2
    go_ret3
    exact HP.out
  go_enter Try.func43, Try.ntmps43
  go_wp2
  go_loopw [5, 6, 7] (fun vo vb va wr => ∃ (p : Nat) (l : List Cp) (bad : Bool), p ≤ bs.length ∧ va = .int .i64 p ∧ vb = .bool bad ∧ Hid (l.any cpBad = bad) ∧ Hid (Rows cpRp 93 w.heap.size wr vo l) ∧ Hid (rdGo (bs.drop p) l = rdGo bs []) ∧ l.length ≤ p ∧ Hid (Below w.heap.size w wr))
    (fun _ _ va _ => bs.length - (intOf va).toNat)
  case atStart => exact ⟨0, [], false, by omega, rfl, rfl, rfl, Rows.nil _ _ _ _, rfl, by simp, Below.refl _ _⟩
  case round =>
    obtain ⟨p, l, bad, hp, rfl, rfl, HBD, HR, HG, hll, HB⟩ := hrel
    have hwsz := HB.out.size
    by_cases hlt : p < bs.length
    · have hne : bs.drop p ≠ [] := fun e => by have := congrArg List.length e; simp at this; omega
      cases hrc : rcL (bs.drop p) with
      | short =>
        have HP : Hid (∀ w', Below w.heap.size w w' → RdPost bs w (.returned (.tuple #[.slice none 0 0, .int .i64 (bs.length : Nat), .int .i64 10])) w') := fun w' hb => rdPost_err (r := 0) hbig (by rw [← HG.out, rdGo_short hne hrc]) hb
        have HRC := Lib.hid hrc
        clear hne hrc
        go_wp2_with fail
        refine (readCopy_any _ bs p wr (Rp.ext _ H.out HB.out) hlt (by omega)).mono ?_
        intro e w1 hq
        obtain ⟨hb1, hm⟩ := hq
        rw [HRC.out] at hm
        subst hm
        have HB1 := Lib.hid (ext_trans HB.out hb1)
        clear hb1
        have hal := HB1.out.alloc HB1.out.size (.cells #[.int .i64 0, .int .i64 0, .slice none 0 0] 93)
        have HAL := Lib.hid hal
        clear hal
        go_wp2
        go_ret3
        exact HP.out _ HAL.out
      | bad =>
        have HP : Hid (∀ w', Below w.heap.size w w' → RdPost bs w (.returned (.tuple #[.slice none 0 0, .int .i64 (p : Nat), .int .i64 10])) w') := fun w' hb => by
          have := rdPost_err (r := (bs.drop p).length) hbig (by rw [← HG.out, rdGo_bad hne hrc]) hb
          rw [List.length_drop, show bs.length - (bs.length - p) = p by omega] at this
          exact this
        have HRC := Lib.hid hrc
        clear hne hrc
        go_wp2_with fail
        refine (readCopy_any _ bs p wr (Rp.ext _ H.out HB.out) hlt (by omega)).mono ?_
        intro e w1 hq
        obtain ⟨hb1, hm⟩ := hq
        rw [HRC.out] at hm
        subst hm
        have HB1 := Lib.hid (ext_trans HB.out hb1)
        clear hb1
        have hal := HB1.out.alloc HB1.out.size (.cells #[.int .i64 0, .int .i64 0, .slice none 0 0] 93)
        have HAL := Lib.hid hal
        clear hal
        go_wp2
        go_ret3
        exact HP.out _ HAL.out
      | ok cp n =>
        have hpos := rcL_pos hrc
        have hsm := rcL_small hrc
        rw [List.length_drop] at hpos
        obtain ⟨hpos1, hpos2, _⟩ := hpos
        have HGN : Hid (rdGo (bs.drop (p + n)) (l ++ [cp]) = rdGo bs []) := by
          have := rdGo_ok (out := l) hne hrc
          rw [List.drop_drop] at this
          show _ = _
          rw [← this]; exact HG.out
        have HRC := Lib.hid hrc
        clear hne hrc
        go_wp2_with fail
        refine (readCopy_any _ bs p wr (Rp.ext _ H.out HB.out) hlt (by omega)).mono ?_
        intro e w1 hq
        obtain ⟨hb1, hm⟩ := hq
        rw [HRC.out] at hm
        obtain ⟨vb, rfl, hv⟩ := hm
        obtain ⟨A3, c3, rfl, hl3, hc3, _⟩ := Rp.sl_open hv
        obtain ⟨f1, f2, f3, f4, f5⟩ := hsm
        have HB1 := Lib.hid (ext_trans HB.out hb1)
        have HR1 := Lib.hid (HR.out.kept (below_grown hb1))
        obtain ⟨A5, c5, rfl, hn5, hc5, hown5⟩ := HR1.out.form
        obtain ⟨A6, c6, e6, _, _, hown6⟩ := HR.out.form
        obtain ⟨xs, hown, hpush⟩ := HR1.out.open_ (by decide)
        have hwf1 : (Lit.int .i64 cp.frm).wf = true := WalkArith.wf_i64 (by omega)
        have hwf2 : (Lit.int .i64 cp.n).wf = true := WalkArith.wf_i64 (by omega)
        have hcp : cpRp.ok w1 (fun b => b < w1.heap.size ∧ (Value.slice A5 l.length c5).ownBlock ≠ some b) [.int .i64 cp.frm, .int .i64 cp.n, .slice A3 cp.bs.length c3] cp :=
          cp_mk hwf1 hwf2 (Rp.sub _ hv (fun b hb => ⟨hb.2, fun e => by have := (hown6 b e).2; omega⟩))
        have HDONE : Hid (∀ (WA w2 : World) (g cc : Nat), Below w1.heap.size w1 WA → WA.grownBy w2 (Value.slice A5 l.length c5).ownBlock → w2.ownsRow w.heap.size 93 3 (.slice (some ⟨g, 0, none⟩) (l.length + 1) cc) (l.length + 1) (xs ++ [.int .i64 cp.frm, .int .i64 cp.n, .slice A3 cp.bs.length c3]) →
            ((Value.slice A5 l.length c5).ownBlock = some g ∨ WA.heap.size ≤ g) → Rows cpRp 93 w.heap.size w2 (.slice (some ⟨g, 0, none⟩) (l.length + 1) cc) (l ++ [cp])) := fun WA w2 g cc h1 h2 h3 h4 =>
          hpush WA w2 g cc cp _ (below_grown h1) (Rp.keep _ hcp (fun b hb => h1.block b hb.1) (fun b hb => ⟨Nat.lt_of_lt_of_le hb.1 h1.size, hb.2⟩)) h2 h3 h4
        have HO := Lib.hid hown
        clear hv hb1 hown hpush hcp hwf1 hwf2 e6 hown5 hown6
        have hany := any_snoc l cp
        rw [HBD.out] at hany
        have hs1 := HB1.out.size
        have HX1 := Lib.hid ((Below.refl w1.heap.size w1).alloc (Nat.le_refl _) (.cells #[.int .i64 cp.frm, .int .i64 cp.n, .slice A3 cp.bs.length c3] 93))
        have HX2 := Lib.hid (HX1.out.alloc (by simp) (.cells #[.int .i64 cp.frm, .int .i64 cp.n, .slice A3 cp.bs.length c3] 93))
        have key : (bad = true) ∨ (bad = false ∧ ¬ cpGood cp.frm cp.n cp.bs.length) ∨ (bad = false ∧ cpGood cp.frm cp.n cp.bs.length ∧ 3000 < cp.frm) ∨ (bad = false ∧ cpGood cp.frm cp.n cp.bs.length ∧ cp.frm ≤ 3000 ∧ 3000 < cp.n) ∨
            (bad = false ∧ cpGood cp.frm cp.n cp.bs.length ∧ cp.frm ≤ 3000 ∧ cp.n ≤ 3000 ∧ (3000 : Int) < cp.bs.length) ∨ (bad = false ∧ cpGood cp.frm cp.n cp.bs.length ∧ cp.frm ≤ 3000 ∧ cp.n ≤ 3000 ∧ (cp.bs.length : Int) ≤ 3000) := by
          by_cases hg : cpGood cp.frm cp.n cp.bs.length
          · cases bad <;> simp [hg]; omega
          · cases bad <;> simp [hg]
        rcases key with rfl | ⟨rfl, hg⟩ | ⟨rfl, hg, q1⟩ | ⟨rfl, hg, q1, q2⟩ | ⟨rfl, hg, q1, q2, q3⟩ | ⟨rfl, hg, q1, q2, q3⟩
        · rw [Bool.true_or] at hany
          have HANY := Lib.hid hany
          clear hany
          go_wp2_with (at_builtin; refine app_new (w := w1.alloc (.cells #[.int .i64 cp.frm, .int .i64 cp.n, .slice A3 cp.bs.length c3] 93)) rfl (.tmp 50) (.tmp 52) 40 rfl 93 (.agg #[.int .i64 0, .int .i64 0, .slice none 0 0]) 3 40 Try.underlying40 copy_info rfl (by decide) (m := 1) [.int .i64 cp.frm, .int .i64 cp.n, .slice A3 cp.bs.length c3] (HO.out.alloc _) (by simp; omega) rfl (by rw [World.size_alloc]; rfl) rfl (by decide) (by simp [Value.oneCell']) (by unfold maxLen; omega) (by omega) ?_; intro g1 cc1 w2 HO1 HG1 HB2 HL1)
          go_roundw
          case rel => exact ⟨p + n, l ++ [cp], true, by omega, by go_num, rfl, HANY, HDONE.out _ w2 g1 cc1 HX1.out HG1.out HO1.out HL1.out, HGN, by simp; omega, HB2.out _ (HB1.out.alloc hs1 _)⟩
          case measure => simp [intOf]; omega
        · have hcf : cpF cp.frm cp.n cp.bs.length = 3 := if_neg hg
          have hcb : cpBad cp = true := decide_eq_true (.inl hg)
          rw [hcb] at hany
          simp only [Bool.or_true, Bool.or_false] at hany
          have HANY := Lib.hid hany
          have HGD := Lib.hid hg
          clear hany hcb hg
          go_wp2_with fail
          refine (checkCopy_any cp.frm cp.n A3 cp.bs.length c3 _ (by omega)).mono ?_
          rintro e w9 ⟨rfl, rfl⟩
          rw [hcf]
          go_wp2_with (at_builtin; refine app_new (w := (w1.alloc (.cells #[.int .i64 cp.frm, .int .i64 cp.n, .slice A3 cp.bs.length c3] 93)).alloc (.cells #[.int .i64 cp.frm, .int .i64 cp.n, .slice A3 cp.bs.length c3] 93)) rfl (.tmp 50) (.tmp 52) 40 rfl 93 (.agg #[.int .i64 0, .int .i64 0, .slice none 0 0]) 3 40 Try.underlying40 copy_info rfl (by decide) (m := 1) [.int .i64 cp.frm, .int .i64 cp.n, .slice A3 cp.bs.length c3] ((HO.out.alloc _).alloc _) (by simp; omega) rfl (by rw [World.size_alloc, World.size_alloc]; rfl) rfl (by decide) (by simp [Value.oneCell']) (by unfold maxLen; omega) (by omega) ?_; intro g1 cc1 w2 HO1 HG1 HB2 HL1)
          go_roundw
          case rel => exact ⟨p + n, l ++ [cp], true, by omega, by go_num, rfl, HANY, HDONE.out _ w2 g1 cc1 HX2.out HG1.out HO1.out HL1.out, HGN, by simp; omega, HB2.out _ ((HB1.out.alloc hs1 _).alloc (by simp; omega) _)⟩
          case measure => simp [intOf]; omega
        · have hcf : cpF cp.frm cp.n cp.bs.length = 0 := if_pos hg
          have hcb : cpBad cp = true := decide_eq_true (.inr (.inl q1))
          rw [hcb] at hany
          simp only [Bool.or_true, Bool.or_false] at hany
          have HANY := Lib.hid hany
          have HGD := Lib.hid hg
          clear hany hcb hg
          go_wp2_with fail
          refine (checkCopy_any cp.frm cp.n A3 cp.bs.length c3 _ (by omega)).mono ?_
          rintro e w9 ⟨rfl, rfl⟩
          rw [hcf]
          go_wp2_with (at_builtin; refine app_new (w := (w1.alloc (.cells #[.int .i64 cp.frm, .int .i64 cp.n, .slice A3 cp.bs.length c3] 93)).alloc (.cells #[.int .i64 cp.frm, .int .i64 cp.n, .slice A3 cp.bs.length c3] 93)) rfl (.tmp 50) (.tmp 52) 40 rfl 93 (.agg #[.int .i64 0, .int .i64 0, .slice none 0 0]) 3 40 Try.underlying40 copy_info rfl (by decide) (m := 1) [.int .i64 cp.frm, .int .i64 cp.n, .slice A3 cp.bs.length c3] ((HO.out.alloc _).alloc _) (by simp; omega) rfl (by rw [World.size_alloc, World.size_alloc]; rfl) rfl (by decide) (by simp [Value.oneCell']) (by unfold maxLen; omega) (by omega) ?_; intro g1 cc1 w2 HO1 HG1 HB2 HL1)
          go_roundw
          case rel => exact ⟨p + n, l ++ [cp], true, by omega, by go_num, rfl, HANY, HDONE.out _ w2 g1 cc1 HX2.out HG1.out HO1.out HL1.out, HGN, by simp; omega, HB2.out _ ((HB1.out.alloc hs1 _).alloc (by simp; omega) _)⟩
          case measure => simp [intOf]; omega
        · have hcf : cpF cp.frm cp.n cp.bs.length = 0 := if_pos hg
          have hcb : cpBad cp = true := decide_eq_true (.inr (.inr (.inl q2)))
          rw [hcb] at hany
          simp only [Bool.or_true, Bool.or_false] at hany
          have HANY := Lib.hid hany
          have HGD := Lib.hid hg
          clear hany hcb hg
          go_wp2_with fail
          refine (checkCopy_any cp.frm cp.n A3 cp.bs.length c3 _ (by omega)).mono ?_
          rintro e w9 ⟨rfl, rfl⟩
          rw [hcf]
          go_wp2_with (at_builtin; refine app_new (w := (w1.alloc (.cells #[.int .i64 cp.frm, .int .i64 cp.n, .slice A3 cp.bs.length c3] 93)).alloc (.cells #[.int .i64 cp.frm, .int .i64 cp.n, .slice A3 cp.bs.length c3] 93)) rfl (.tmp 50) (.tmp 52) 40 rfl 93 (.agg #[.int .i64 0, .int .i64 0, .slice none 0 0]) 3 40 Try.underlying40 copy_info rfl (by decide) (m := 1) [.int .i64 cp.frm, .int .i64 cp.n, .slice A3 cp.bs.length c3] ((HO.out.alloc _).alloc _) (by simp; omega) rfl (by rw [World.size_alloc, World.size_alloc]; rfl) rfl (by decide) (by simp [Value.oneCell']) (by unfold maxLen; omega) (by omega) ?_; intro g1 cc1 w2 HO1 HG1 HB2 HL1)
          go_roundw
          case rel => exact ⟨p + n, l ++ [cp], true, by omega, by go_num, rfl, HANY, HDONE.out _ w2 g1 cc1 HX2.out HG1.out HO1.out HL1.out, HGN, by simp; omega, HB2.out _ ((HB1.out.alloc hs1 _).alloc (by simp; omega) _)⟩
          case measure => simp [intOf]; omega
        · have hcf : cpF cp.frm cp.n cp.bs.length = 0 := if_pos hg
          have hcb : cpBad cp = true := decide_eq_true (.inr (.inr (.inr (by omega))))
          rw [hcb] at hany
          simp only [Bool.or_true, Bool.or_false] at hany
          have HANY := Lib.hid hany
          have HGD := Lib.hid hg
          clear hany hcb hg
          go_wp2_with fail
          refine (checkCopy_any cp.frm cp.n A3 cp.bs.length c3 _ (by omega)).mono ?_
          rintro e w9 ⟨rfl, rfl⟩
          rw [hcf]
          go_wp2_with (at_builtin; refine app_new (w := (w1.alloc (.cells #[.int .i64 cp.frm, .int .i64 cp.n, .slice A3 cp.bs.length c3] 93)).alloc (.cells #[.int .i64 cp.frm, .int .i64 cp.n, .slice A3 cp.bs.length c3] 93)) rfl (.tmp 50) (.tmp 52) 40 rfl 93 (.agg #[.int .i64 0, .int .i64 0, .slice none 0 0]) 3 40 Try.underlying40 copy_info rfl (by decide) (m := 1) [.int .i64 cp.frm, .int .i64 cp.n, .slice A3 cp.bs.length c3] ((HO.out.alloc _).alloc _) (by simp; omega) rfl (by rw [World.size_alloc, World.size_alloc]; rfl) rfl (by decide) (by simp [Value.oneCell']) (by unfold maxLen; omega) (by omega) ?_; intro g1 cc1 w2 HO1 HG1 HB2 HL1)
          go_roundw
          case rel => exact ⟨p + n, l ++ [cp], true, by omega, by go_num, rfl, HANY, HDONE.out _ w2 g1 cc1 HX2.out HG1.out HO1.out HL1.out, HGN, by simp; omega, HB2.out _ ((HB1.out.alloc hs1 _).alloc (by simp; omega) _)⟩
          case measure => simp [intOf]; omega
        · have hcf : cpF cp.frm cp.n cp.bs.length = 0 := if_pos hg
          have hcb : cpBad cp = false := decide_eq_false (by rintro (h | h | h | h); exact h hg; omega; omega; omega)
          rw [hcb] at hany
          simp only [Bool.or_true, Bool.or_false] at hany
          have HANY := Lib.hid hany
          have HGD := Lib.hid hg
          clear hany hcb hg
          go_wp2_with fail
          refine (checkCopy_any cp.frm cp.n A3 cp.bs.length c3 _ (by omega)).mono ?_
          rintro e w9 ⟨rfl, rfl⟩
          rw [hcf]
          go_wp2_with (at_builtin; refine app_new (w := (w1.alloc (.cells #[.int .i64 cp.frm, .int .i64 cp.n, .slice A3 cp.bs.length c3] 93)).alloc (.cells #[.int .i64 cp.frm, .int .i64 cp.n, .slice A3 cp.bs.length c3] 93)) rfl (.tmp 50) (.tmp 52) 40 rfl 93 (.agg #[.int .i64 0, .int .i64 0, .slice none 0 0]) 3 40 Try.underlying40 copy_info rfl (by decide) (m := 1) [.int .i64 cp.frm, .int .i64 cp.n, .slice A3 cp.bs.length c3] ((HO.out.alloc _).alloc _) (by simp; omega) rfl (by rw [World.size_alloc, World.size_alloc]; rfl) rfl (by decide) (by simp [Value.oneCell']) (by unfold maxLen; omega) (by omega) ?_; intro g1 cc1 w2 HO1 HG1 HB2 HL1)
          go_roundw
          case rel => exact ⟨p + n, l ++ [cp], false, by omega, by go_num, by simp; omega, HANY, HDONE.out _ w2 g1 cc1 HX2.out HG1.out HO1.out HL1.out, HGN, by simp; omega, HB2.out _ ((HB1.out.alloc hs1 _).alloc (by simp; omega) _)⟩
          case measure => simp [intOf]; omega
    · obtain rfl : p = bs.length := by omega
      have hfin := HG.out
      rw [List.drop_length, rdGo_nil] at hfin
      have hg := hfin.symm
      obtain ⟨A5, c5, rfl, hn5, hc5, _⟩ := HR.out.form
      cases bad with
      | true =>
        have HP := Lib.hid (rdPost_form hbig hg HBD.out HB.out)
        clear hfin hg
        go_wp2
        go_ret3
        exact HP.out
      | false =>
        by_cases hm : 3000 < l.length
        · have HP := Lib.hid (rdPost_many hbig hg HBD.out hm HB.out)
          clear hfin hg
          go_wp2
          go_ret3
          exact HP.out
        · have HP := Lib.hid (rdPost_good hbig hg HBD.out hm (HR.out.read (by decide)) HB.out)
          clear hfin hg
          go_wp2
          go_ret3
          exact HP.out
end Go.Proofs.Ytofahmdjhpbecaa
