/-
  'DeltaBytes' of package alike.
-/
import Derived.Test.YtofahmdjhpbecaaProg
import Derived.Test.YtofahmdjhpbecaaDBytes
import Derived.Test.YtofahmdjhpbecaaRebPlain
namespace Go.Proofs.Ytofahmdjhpbecaa
open Go.RowKit
set_option linter.unusedVariables false
set_option linter.unusedSimpArgs false

/-- A number of a piece is too great, or below 0. -/
def dbRange (c : Cp) : Prop := c.frm < 0 ∨ 3000 < c.frm ∨ 3000 < c.n ∨ 3000 < c.bs.length
instance (c : Cp) : Decidable (dbRange c) := by unfold dbRange; infer_instance
def dbChk : List Cp → Int
  | [] => 0
  | c :: l => if cpGood c.frm c.n c.bs.length then (if dbRange c then 1 else dbChk l) else 3
def dbFault (l : List Cp) : Int := if 3000 < l.length then 2 else if dbChk l ≠ 0 then dbChk l else if 20000 < (dBytes l).length then 2 else 0
def dbOut (l : List Cp) : List UInt8 := if dbFault l = 0 then dBytes l else []
def DBPost (l : List Cp) (w : World) (e : Ending) (w' : World) : Prop :=
  ∃ v, e = .returned (.tuple #[v, .int .i64 (dbFault l)]) ∧ (Rp.sl Rp.u8).ok w' (fun k => w.heap.size ≤ k ∧ k < w'.heap.size) [v] (dbOut l) ∧ Below w.heap.size w w'
theorem dbPost_bad {l : List Cp} {w w' : World} {f : Int} (h : dbFault l = f) (h0 : f ≠ 0) (hb : Below w.heap.size w w') : DBPost l w (.returned (.tuple #[.slice none 0 0, .int .i64 f])) w' := by
  refine ⟨_, by rw [h], ?_, hb⟩
  rw [dbOut, h, if_neg h0]
  exact Rp.sl_nil _ _ _
theorem dbPost_good {l : List Cp} {w w' : World} {v : Value} {B : Nat} (hB : w.heap.size ≤ B) (h : dbFault l = 0) (ho : w'.ownsRow B 5 1 v (dBytes l).length (bys (dBytes l))) (hb : Below w.heap.size w w') : DBPost l w (.returned (.tuple #[v, .int .i64 0])) w' := by
  refine ⟨_, by rw [h], ?_, hb⟩
  rw [dbOut, h, if_pos rfl]
  exact Rp.u8_own ho (fun g hg => ⟨Nat.le_trans hB (ho.lt g hg).1, (ho.lt g hg).2⟩)
theorem dbChk_form {l : List Cp} {k : Nat} (h : k < l.length) (hg : ¬ cpGood l[k].frm l[k].n l[k].bs.length) : dbChk (l.drop k) = 3 := by rw [List.drop_eq_getElem_cons h, dbChk, if_neg hg]
theorem dbChk_range {l : List Cp} {k : Nat} (h : k < l.length) (hg : cpGood l[k].frm l[k].n l[k].bs.length) (hr : dbRange l[k]) : dbChk (l.drop k) = 1 := by rw [List.drop_eq_getElem_cons h, dbChk, if_pos hg, if_pos hr]
theorem dbChk_next {l : List Cp} {k : Nat} (h : k < l.length) (hg : cpGood l[k].frm l[k].n l[k].bs.length) (hr : ¬ dbRange l[k]) : dbChk (l.drop k) = dbChk (l.drop (k + 1)) := by rw [List.drop_eq_getElem_cons h, dbChk, if_pos hg, if_neg hr]
theorem dbChk_fit : ∀ {l : List Cp}, dbChk l = 0 → ∀ c ∈ l, cpGood c.frm c.n c.bs.length ∧ ¬ dbRange c
  | [], _, c, hc => by cases hc
  | d :: l, h, c, hc => by
    rw [dbChk] at h
    split at h
    · rename_i hg
      split at h
      · cases h
      · rename_i hr
        rcases List.mem_cons.1 hc with rfl | hc
        · exact ⟨hg, hr⟩
        · exact dbChk_fit h c hc
    · cases h
theorem cpBytes_len {c : Cp} (hg : cpGood c.frm c.n c.bs.length) : (cpBytes c).length = 3 + c.bs.length + if 0 < c.n then 2 else 0 := by
  unfold cpBytes
  rcases hg with ⟨h1, h2⟩ | ⟨h1, h2, h3⟩
  · rw [if_pos h1, if_pos h1]; simp [twoB, h2]
  · rw [if_neg (by omega), if_neg (by omega)]; simp [twoB]; omega

set_option maxRecDepth 100000 in
set_option maxHeartbeats 2000000 in
theorem deltaBytesTop_any (v : Value) (l : List Cp) (w : World) (h : (Rp.sl cpRp).ok w (· < w.heap.size) [v] l) :
    Calls Try.prog 41 #[v] w (DBPost l w) := by
  obtain ⟨A, c, rfl, hl1, hc1, _⟩ := Rp.sl_open h
  unfold maxLen at hc1
  have H := Lib.hid h
  clear h
  by_cases hb : 3000 < l.length
  · have HP := Lib.hid (dbPost_bad (l := l) (w := w) (w' := w) (f := 2) (by rw [dbFault, if_pos hb]) (by decide) (Below.refl _ _))
    go_enter Try.func41, Try.ntmps41
    go_wp2
    go_ret2
    exact HP.out
  have HF0 : Hid (dbFault l = if dbChk l ≠ 0 then dbChk l else if 20000 < (dBytes l).length then 2 else 0) := by show dbFault l = _; rw [dbFault, if_neg hb]
  go_enter Try.func41, Try.ntmps41
  go_wp2
  go_loopw [4, 13] (fun vl i wr => ∃ k t : Nat, k ≤ l.length ∧ i = .int .i64 k ∧ vl = .int .i64 t ∧ t ≤ k * 4000 ∧ Hid (t = (dBytes (l.take k)).length) ∧ Hid (dbChk l = dbChk (l.drop k)) ∧ Hid (Below w.heap.size w wr))
    (fun _ i _ => l.length - (intOf i).toNat)
  case atStart => exact ⟨0, 0, by omega, rfl, rfl, by omega, rfl, rfl, Below.refl _ _⟩
  case round =>
    obtain ⟨k, t, hk, rfl, rfl, htb, HT, HC, HB⟩ := hrel
    by_cases hlt : k < l.length
    · obtain ⟨ad, us, rfl, _, hadb, hu, hcell⟩ := Rp.sl_at (Rp.below _ H.out HB.out) hlt
      obtain ⟨vb, rfl, hvb, hw1, hw2⟩ := cp_open hu
      have c0 : wr.cell? (ad.add (k * 3)) = some (.int .i64 l[k].frm) := hcell 0 _ rfl
      have c1 := hcell 1 _ rfl
      have c2 := hcell 2 _ rfl
      rw [add_fld _ _ _ (by omega)] at c1 c2
      change wr.cell? ⟨(ad.add (k * 3)).block, (ad.add (k * 3)).off + 1, none⟩ = some (.int .i64 l[k].n) at c1
      change wr.cell? ⟨(ad.add (k * 3)).block, (ad.add (k * 3)).off + 2, none⟩ = some vb at c2
      obtain ⟨A3, c3, rfl, hl3, hc3, _⟩ := Rp.sl_open hvb
      unfold maxLen at hc3
      clear hcell hu hvb hw1 hw2 hadb
      have hNF := @dbChk_form l k hlt
      have hNR := @dbChk_range l k hlt
      have hNN := @dbChk_next l k hlt
      have hst := dBytes_succ l k hlt
      have hcl := @cpBytes_len l[k]
      have HNF := Lib.hid hNF
      have HNR := Lib.hid hNR
      have HNN := Lib.hid hNN
      have HST := Lib.hid hst
      have HCL := Lib.hid hcl
      clear hNF hNR hNN hst hcl
      generalize hcp : l[k] = cp at *
      obtain ⟨frm, n, bs⟩ := cp
      clear hcp
      simp only [] at c0 c1 hl3
      have HHB := Lib.hid ((HB.out.alloc HB.out.size (.cells #[.int .i64 frm, .int .i64 n, .slice A3 bs.length c3] 93)).alloc (by simp; have := HB.out.size; omega) (.cells #[.int .i64 frm, .int .i64 n, .slice A3 bs.length c3] 93))
      by_cases hgood : cpGood frm n bs.length
      · have hcf : cpF frm n bs.length = 0 := if_pos hgood
        have hnn : 0 ≤ n := by unfold cpGood at hgood; omega
        by_cases hrange : dbRange ⟨frm, n, bs⟩
        · have HP := Lib.hid (fun w' h => dbPost_bad (l := l) (w := w) (w' := w') (f := 1) (by rw [HF0.out, HC.out, HNR.out hgood hrange]; rfl) (by decide) h)
          have key : frm < 0 ∨ (0 ≤ frm ∧ 3000 < frm) ∨ (0 ≤ frm ∧ frm ≤ 3000 ∧ 3000 < n) ∨ (0 ≤ frm ∧ frm ≤ 3000 ∧ n ≤ 3000 ∧ (3000 : Int) < bs.length) := by
            unfold dbRange at hrange; simp only [] at hrange; omega
          have HGD := Lib.hid hgood
          clear hgood hrange
          rcases key with q | ⟨q, q2⟩ | ⟨q, q2, q3⟩ | ⟨q, q2, q3, q4⟩
          all_goals
            go_wp2_with fail
            refine (checkCopy_any frm n A3 bs.length c3 _ (by omega)).mono ?_
            rintro e w1 ⟨rfl, rfl⟩
            rw [hcf]
            go_wp2
            go_ret2
            exact HP.out _ HHB.out
        · have key : 0 ≤ frm ∧ frm ≤ 3000 ∧ n ≤ 3000 ∧ (bs.length : Int) ≤ 3000 := by unfold dbRange at hrange; simp only [] at hrange; omega
          obtain ⟨q, q2, q3, q4⟩ := key
          have HC2 : Hid (dbChk l = dbChk (l.drop (k + 1))) := by show _ = _; rw [HC.out, HNN.out hgood hrange]
          have hcl : (cpBytes ⟨frm, n, bs⟩).length = 3 + bs.length + if 0 < n then 2 else 0 := HCL.out hgood
          clear HNF HNR HNN HCL
          have HGD := Lib.hid hgood
          clear hgood hrange
          by_cases hn0 : 0 < n
          · rw [if_pos hn0] at hcl
            have hsum : Hid (t + 3 + bs.length + 2 = (dBytes (l.take (k + 1))).length) := by show _ = _; rw [HST.out, List.length_append, hcl, ← HT.out]; omega
            clear hcl
            go_wp2_with fail
            refine (checkCopy_any frm n A3 bs.length c3 _ (by omega)).mono ?_
            rintro e w1 ⟨rfl, rfl⟩
            rw [hcf]
            go_wp2
            go_roundw
            case rel => exact ⟨k + 1, t + 3 + bs.length + 2, by omega, by go_num, by go_num, by omega, hsum, HC2, HHB⟩
            case measure => simp [intOf]; omega
          · rw [if_neg hn0] at hcl
            have hsum : Hid (t + 3 + bs.length = (dBytes (l.take (k + 1))).length) := by show _ = _; rw [HST.out, List.length_append, hcl, ← HT.out]; omega
            clear hcl
            go_wp2_with fail
            refine (checkCopy_any frm n A3 bs.length c3 _ (by omega)).mono ?_
            rintro e w1 ⟨rfl, rfl⟩
            rw [hcf]
            go_wp2
            go_roundw
            case rel => exact ⟨k + 1, t + 3 + bs.length, by omega, by go_num, by go_num, by omega, hsum, HC2, HHB⟩
            case measure => simp [intOf]; omega
      · have hcf : cpF frm n bs.length = 3 := if_neg hgood
        have HP := Lib.hid (fun w' h => dbPost_bad (l := l) (w := w) (w' := w') (f := 3) (by rw [HF0.out, HC.out, HNF.out hgood]; rfl) (by decide) h)
        clear hgood
        go_wp2_with fail
        refine (checkCopy_any frm n A3 bs.length c3 _ (by omega)).mono ?_
        rintro e w1 ⟨rfl, rfl⟩
        rw [hcf]
        go_wp2
        go_ret2
        exact HP.out _ HHB.out
    · obtain rfl : k = l.length := by omega
      have hc0 : dbChk l = 0 := by rw [HC.out, List.drop_length]; rfl
      have htl : t = (dBytes l).length := by rw [HT.out, List.take_length]
      rw [hc0] at HF0
      rw [if_neg (by decide), ← htl] at HF0
      have HTL := Lib.hid htl
      have HC0 := Lib.hid hc0
      clear hc0 htl
      by_cases hbig : 20000 < t
      · have HP := Lib.hid (dbPost_bad (l := l) (w := w) (w' := wr) (f := 2) (by rw [HF0.out, if_pos hbig]) (by decide) HB.out)
        go_wp2
        go_ret2
        exact HP.out
      · have HP : Hid (∀ v w', w'.ownsRow wr.heap.size 5 1 v (dBytes l).length (bys (dBytes l)) → Below w.heap.size w w' → DBPost l w (.returned (.tuple #[v, .int .i64 0])) w') := fun v w' h1 h2 => dbPost_good HB.out.size (by rw [HF0.out, if_neg hbig]) h1 h2
        have HFT : Hid (∀ c ∈ l, CpFit c) := fun c hc => by
          have := dbChk_fit HC0.out c hc
          obtain ⟨g, r⟩ := this
          unfold dbRange at r
          unfold cpGood at g
          exact ⟨by omega, by omega, by omega, by omega, by omega⟩
        have hsz : (dBytes l).length ≤ 900000 := by rw [← HTL.out]; omega
        have HSZ := Lib.hid hsz
        clear hsz
        go_wp2_with fail
        refine (deltaBytes_any _ l wr (Rp.ext _ H.out HB.out) HFT.out HSZ.out).mono ?_
        rintro e w2 ⟨v, rfl, ho, hb2⟩
        have HFIN := Lib.hid (HP.out v w2 ho (ext_trans HB.out hb2))
        clear ho hb2
        go_wp2
        go_ret2
        exact HFIN.out
end Go.Proofs.Ytofahmdjhpbecaa
