/-
  'Proof' of care: the partners by which a leaf leads to the root.
-/
import Derived.Test.YtnnoolemmnailaaDoorProg
import Derived.Test.YtnnoolemmnailaaDoorTreeTop
import Derived.Test.YtnnoolemmnailaaDoorWithin
import Derived.Laws.BitsAllLaws
namespace Go.Proofs.YtnnoolemmnailaaDoor
open Go.RowKit
set_option linter.unusedVariables false
set_option linter.unusedSimpArgs false

theorem nat_xor_one (a : Nat) : a ^^^ 1 = if a % 2 = 0 then a + 1 else a - 1 := by
  have h1 : (a ^^^ 1) / 2 = a / 2 := by rw [Nat.xor_div_two]; simp
  have h2 := @Nat.xor_mod_two_pow a 1 1
  rw [Nat.pow_one] at h2
  rcases Nat.mod_two_eq_zero_or_one a with h | h
  · rw [h] at h2
    have h3 : (a ^^^ 1) % 2 = 1 := h2
    rw [if_pos h]; omega
  · rw [h] at h2
    have h3 : (a ^^^ 1) % 2 = 0 := h2
    rw [if_neg (by omega)]; omega
theorem i64_xor_one (a : Nat) (ha : a < 100000) : bits .xor .i64 (a : Int) 1 = if a % 2 = 0 then (a : Int) + 1 else ((a - 1 : Nat) : Int) := by
  have hx : a ^^^ 1 < 2 ^ 64 := Nat.xor_lt_two_pow (by omega) (by omega)
  show IntKind.i64.wrap ((BitVec.ofInt 64 (a : Int) ^^^ BitVec.ofInt 64 ((1 : Nat) : Int)).toNat : Int) = _
  rw [BitVec.toNat_xor, ofInt_u64 a (by omega), ofInt_u64 1 (by omega), nat_xor_one]
  split
  · rw [IntWalk.i64_in _ (by omega)]; omega
  · rw [IntWalk.i64_in _ (by omega)]
def sideCells (s : Side) : List Value := [.string (bstr s.digest), .bool s.left]
def sideRp : Rp Side := (Rp.pair Rp.str Rp.bool).via fun s => (bstr s.digest, s.left)
theorem side_open {w : World} {S : Nat → Prop} {us : List Value} {c : Side} (h : sideRp.ok w S us c) : us = [.string (bstr c.digest), .bool c.left] ∧ c.digest.length ≤ maxLen := by
  obtain ⟨_, _, rfl, ⟨rfl, h1⟩, rfl⟩ := h
  exact ⟨rfl, h1⟩
theorem side_info : (Tryd.prog.info? 39).map (fun i => (i.zero, i.size, i.bytes)) = some (some (.agg #[.string ⟨#[]⟩, .bool false]), 2, 24) := by kernel_rfl
theorem sides_read {w : World} {B : Nat} {v : Value} {l : List Side} (h : w.ownsRow B 39 2 v l.length (l.flatMap sideCells)) (hl : ∀ s ∈ l, s.digest.length ≤ maxLen) : (Rp.sl sideRp).ok w (· < w.heap.size) [v] l :=
  Rp.of_ownN (R := sideRp) (by decide) (fun _ => rfl) h (fun g hg => (h.lt g hg).2) (fun s hs => ⟨[_], [_], rfl, ⟨rfl, hl s hs⟩, rfl⟩)
/-- What is left of the rows of a tree, and the place in the first one. -/
def PInv (t : List (List Str8)) (m : Nat) : Prop := t = [] ∨ ∃ r, t = rowsFrom r ∧ m < r.length
theorem PInv.next {r : List Str8} {t : List (List Str8)} {m : Nat} (h : PInv (r :: t) m) : m < r.length ∧ PInv t (m / 2) := by
  rcases h with h | ⟨q, h, hm⟩
  · cases h
  · by_cases hq : q.length ≤ 1
    · rw [rowsFrom_one hq] at h
      injection h with h1 h2
      subst h1 h2
      exact ⟨hm, .inl rfl⟩
    · rw [rowsFrom_more hq] at h
      injection h with h1 h2
      subst h1 h2
      exact ⟨hm, .inr ⟨_, rfl, by rw [up_len]; omega⟩⟩
def proofFault (l : List Leaf) (n : Int) : Int := if leavesFault l ≠ 0 then leavesFault l else if 0 ≤ n ∧ n < l.length then 0 else 1
def proofTopL (l : List Leaf) (n : Int) : List Side := if proofFault l n = 0 then proofOf (treeOf l) n.toNat else []
def ProofTop (l : List Leaf) (n : Int) (w : World) (e : Ending) (w' : World) : Prop :=
  ∃ v, e = .returned (.tuple #[v, .int .i64 (proofFault l n)]) ∧ (Rp.sl sideRp).ok w' (· < w'.heap.size) [v] (proofTopL l n) ∧ Below w.heap.size w w'
theorem proof_drop {T : List (List Str8)} {i m : Nat} (hi : i < T.length) : proofOf (T.drop i) m = sideAt T[i] m ++ proofOf (T.drop (i + 1)) (m / 2) := by
  rw [List.drop_eq_getElem_cons hi]; rfl
theorem pinv_drop {T : List (List Str8)} {i m : Nat} (hi : i < T.length) (h : PInv (T.drop i) m) : m < T[i].length ∧ PInv (T.drop (i + 1)) (m / 2) := by
  rw [List.drop_eq_getElem_cons hi] at h; exact h.next
theorem tree_lens (l : List Leaf) : ∀ r ∈ treeOf l, ∀ x ∈ r, x.length = 16 := by
  intro r hr
  by_cases h : l = []
  · subst h; simp [treeOf] at hr
  · rw [treeOf_some h] at hr
    exact rowsFrom_all (fun x => x.length = 16) (fun a b => nodeD_len a b) _ (fun x hx => by obtain ⟨y, _, rfl⟩ := List.mem_map.1 hx; exact leafD_len y) r hr
theorem tree_many {l : List Leaf} (h : l.length ≤ 1000) : (treeOf l).length ≤ 1000 := by
  by_cases h0 : l = []
  · subst h0; simp [treeOf]
  · rw [treeOf_some h0]
    have := rowsFrom_len (l.map leafD) (by simpa using h0)
    rw [List.length_map] at this; omega
theorem tree_wide (l : List Leaf) : ∀ r ∈ treeOf l, r.length ≤ l.length := by
  intro r hr
  by_cases h : l = []
  · subst h; simp [treeOf] at hr
  · rw [treeOf_some h] at hr
    have key : ∀ q : List Str8, ∀ y ∈ rowsFrom q, y.length ≤ q.length := by
      refine rowsFrom_ind _ (fun q h y hy => ?_) (fun q h ih y hy => ?_)
      · rw [rowsFrom_one h] at hy; simp at hy; rw [hy]; exact Nat.le_refl _
      · rw [rowsFrom_more h] at hy
        rcases List.mem_cons.1 hy with rfl | hy
        · exact Nat.le_refl _
        · have := ih y hy; rw [up_len] at this; omega
    have := key _ r hr
    rw [List.length_map] at this; exact this
theorem pinv_tree {l : List Leaf} {n : Nat} (h : n < l.length) : PInv (treeOf l) n := by
  have h0 : l ≠ [] := by intro e; subst e; simp at h
  rw [treeOf_some h0]
  exact .inr ⟨_, rfl, by rw [List.length_map]; exact h⟩
set_option maxRecDepth 100000 in
set_option maxHeartbeats 4000000 in
theorem proofTop_any (v0 : Value) (l : List Leaf) (n : Int) (w : World) (h0 : (Rp.sl leafRp).ok w (· < w.heap.size) [v0] l) (hn : (Lit.int .i64 n).wf = true) :
    Calls Tryd.prog 18 #[v0, .int .i64 n] w (ProofTop l n w) := by
  obtain ⟨A, c, rfl, hl, hc, _⟩ := Rp.sl_open h0
  unfold maxLen at hc
  have H0 := Lib.hid h0
  clear h0
  go_enter Tryd.func18, Tryd.ntmps18
  go_wp2_with fail
  refine (checkLeaves_any _ l w H0.out).mono ?_
  rintro e w1 ⟨rfl, hb1⟩
  have HB1 := Lib.hid hb1
  clear hb1
  by_cases hf : leavesFault l = 0
  · have HF := Lib.hid hf
    have hlen := leaves_len hf
    have hl3 := hlen.1
    have HLEN := Lib.hid hlen
    rw [hf]
    clear hf hlen
    have hz : IntKind.i64.wrap ((l.length : Int) - 1) = (l.length : Int) - 1 := IntWalk.i64_in _ (by omega)
    by_cases hr : 0 ≤ n ∧ n < l.length
    · have hr1 : (0 : Int) ≤ n := hr.1
      have hr2 : n ≤ (l.length : Int) - 1 := by omega
      have HPF : Hid (proofFault l n = 0) := Lib.hid (by rw [proofFault, if_neg (by rw [HF.out]; decide), if_pos hr])
      obtain ⟨k, rfl⟩ := Int.eq_ofNat_of_zero_le hr1
      have hkl : k < l.length := by omega
      go_wp2_with fail
      refine (cwithin_any _ _ _ _).mono ?_
      rintro e w1' ⟨rfl, rfl⟩
      rw [show withinB (k : Int) 0 ((l.length : Int) - 1) = true from decide_eq_true ⟨hr1, hr2⟩]
      go_wp2_with fail
      refine (tree_any _ l w1 (Rp.ext _ H0.out HB1.out) HLEN.out.1 HLEN.out.2).mono ?_
      rintro e w2 ⟨v, rfl, hv, hb2⟩
      have HB2 := Lib.hid (HB1.out.trans (hb2.mono HB1.out.size))
      have HT := Lib.hid hv
      have HPT : Hid (proofTopL l (k : Int) = proofOf (treeOf l) k) := Lib.hid (by rw [proofTopL, if_pos HPF.out]; rfl)
      have HPI := Lib.hid (pinv_tree hkl)
      have hTl := tree_many hl3
      have HTW := Lib.hid (tree_wide l)
      have HTX := Lib.hid (tree_lens l)
      clear hb2 hr HF
      generalize treeOf l = T at *
      obtain ⟨At, ct, rfl, hct, hctm, _⟩ := Rp.sl_open hv
      unfold maxLen at hctm
      clear hv
      go_wp2_with fail
      go_loopw [1, 7, 25] (fun vm vo vi wr => ∃ (i m : Nat) (sd : List Side), i ≤ T.length ∧ vi = .int .i64 i ∧ vm = .int .i64 m ∧ m < 1000 ∧ sd.length ≤ i ∧ Hid (PInv (T.drop i) m) ∧ Hid (sd ++ proofOf (T.drop i) m = proofOf T k) ∧ Hid (∀ s ∈ sd, s.digest.length = 16) ∧
        Hid (wr.ownsRow w2.heap.size 39 2 vo sd.length (sd.flatMap sideCells)) ∧ Hid (Below w2.heap.size w2 wr)) (fun _ _ vi _ => T.length - (intOf vi).toNat)
      case atStart => exact ⟨0, k, [], by omega, rfl, rfl, by omega, Nat.zero_le _, HPI, Lib.hid rfl, Lib.hid (fun s hs => by cases hs), World.ownsRow_nil _ _ _ _, Below.refl _ _⟩
      case round =>
        obtain ⟨i, m, sd, hi, rfl, rfl, hm, hsd, HPV, HPO, HSX, HO, HB3⟩ := hrel
        have hwsz := HB3.out.size
        obtain ⟨A5, c5, rfl, _⟩ := own_form HO.out
        by_cases hlt : i < T.length
        · obtain ⟨ad, ct', x1, e1, _, hc0, hrw⟩ := tree_at (Rp.below _ HT.out HB3.out) hlt
          cases e1
          obtain ⟨hmr, hpn⟩ := pinv_drop hlt HPV.out
          have hpo := HPO.out
          rw [proof_drop hlt] at hpo
          have hwide := HTW.out T[i] (List.getElem_mem hlt)
          have hrl := HTX.out T[i] (List.getElem_mem hlt)
          generalize T[i] = row at *
          obtain ⟨Ar, cr, rfl, hcr, hcrm, _⟩ := Rp.sl_open hrw
          rw [List.length_map] at *
          obtain ⟨ar, rfl⟩ : ∃ ad, Ar = some ad := by
            rcases Rp.sl_some (R := Rp.str) hrw (by rw [List.length_map]; omega) with ⟨ad, h⟩
            rcases h with ⟨h, _⟩ | h
            · exact ⟨ad, h⟩
            · cases h
          have HRW := Lib.hid hrw
          have HPN := Lib.hid hpn
          have HRL := Lib.hid hrl
          have hdiv : Int.tdiv (m : Int) 2 = ((m / 2 : Nat) : Int) := by rw [Int.tdiv_eq_ediv_of_nonneg (by omega)]; omega
          clear hrw hpn hrl HPV HPO
          by_cases h2 : m % 2 = 1
          · have hx := i64_xor_one m (by omega)
            rw [if_neg (by omega)] at hx
            have hk1 := str_cell HRW.out (k := m - 1) (by omega)
            have hsa : sideAt row m = [⟨row[m - 1]'(by omega), true⟩] := by rw [sideAt, if_pos h2, getD_lt _ _ _ (by omega)]
            rw [hsa] at hpo
            have hd := HRL.out (row[m - 1]'(by omega)) (List.getElem_mem _)
            have HPO := Lib.hid hpo
            clear hsa hpo
            generalize row[m - 1]'(by omega) = d at *
            have q1 : ((m - 1 : Nat) : Int) < (row.length : Int) := by omega
            have q2 : ((m - 1 : Nat) : Int) < (m : Int) := by omega
            go_wp2_with (at_builtin; refine app_new rfl (.tmp 35) (.tmp 44) 28 rfl 39 (.agg #[.string ⟨#[]⟩, .bool false]) 2 24 Tryd.underlying28 side_info rfl (by decide) [.string (bstr d), .bool true] HO.out hwsz rfl rfl rfl (by decide) (by simp [Value.oneCell']) (by unfold maxLen; omega) (by omega) ?_; intro g1 cc1 w9 HO9 HG9 HB9 HL9)
            go_roundw
            case rel => exact ⟨i + 1, m / 2, sd ++ [⟨d, true⟩], by omega, by go_num, congrArg (Value.int .i64) (by omega), by omega, by simp; omega, HPN, Lib.hid (by rw [List.append_assoc]; exact HPO.out), Lib.hid (fun s hs => by rcases List.mem_append.1 hs with h | h; exact HSX.out s h; simp at h; rw [h]; exact hd), Lib.hid (by rw [List.length_append, List.flatMap_append]; exact HO9.out), Lib.hid (HB9.out _ HB3.out)⟩
            case measure => simp [intOf]; omega
          · have hx := i64_xor_one m (by omega)
            rw [if_pos (by omega)] at hx
            by_cases h3 : m + 1 < row.length
            · have hk1 := str_cell HRW.out h3
              have hsa : sideAt row m = [⟨row[m + 1], false⟩] := by rw [sideAt, if_neg h2, if_pos h3, getD_lt _ _ _ h3]
              rw [hsa] at hpo
              have hd := HRL.out row[m + 1] (List.getElem_mem _)
              have HPO := Lib.hid hpo
              clear hsa hpo
              generalize row[m + 1] = d at *
              rw [show ar.add (m + 1) = ⟨ar.block, ar.off + (m + 1), none⟩ by simp [Addr.add]] at hk1
              have q1 : (m : Int) + 1 < (row.length : Int) := by omega
              have q2 : ¬ (m : Int) + 1 < (m : Int) := by omega
              have q3 : (0 : Int) ≤ (m : Int) + 1 := by omega
              go_wp2_with (at_builtin; refine app_new rfl (.tmp 35) (.tmp 44) 28 rfl 39 (.agg #[.string ⟨#[]⟩, .bool false]) 2 24 Tryd.underlying28 side_info rfl (by decide) [.string (bstr d), .bool false] HO.out hwsz rfl rfl rfl (by decide) (by simp [Value.oneCell']) (by unfold maxLen; omega) (by omega) ?_; intro g1 cc1 w9 HO9 HG9 HB9 HL9)
              go_roundw
              case rel => exact ⟨i + 1, m / 2, sd ++ [⟨d, false⟩], by omega, by go_num, congrArg (Value.int .i64) (by omega), by omega, by simp; omega, HPN, Lib.hid (by rw [List.append_assoc]; exact HPO.out), Lib.hid (fun s hs => by rcases List.mem_append.1 hs with h | h; exact HSX.out s h; simp at h; rw [h]; exact hd), Lib.hid (by rw [List.length_append, List.flatMap_append]; exact HO9.out), Lib.hid (HB9.out _ HB3.out)⟩
              case measure => simp [intOf]; omega
            · have hsa : sideAt row m = [] := by rw [sideAt, if_neg h2, if_neg h3]
              rw [hsa, List.nil_append] at hpo
              have HPO := Lib.hid hpo
              clear hsa hpo
              have q1 : ¬ (m : Int) + 1 < (row.length : Int) := by omega
              go_wp2_with fail
              go_roundw
              case rel => exact ⟨i + 1, m / 2, sd, by omega, by go_num, congrArg (Value.int .i64) (by omega), by omega, by omega, HPN, HPO, HSX, HO, HB3⟩
              case measure => simp [intOf]; omega
        · obtain rfl : i = T.length := by omega
          have hfin : sd = proofOf T k := by have := HPO.out; rw [List.drop_length, proofOf, List.append_nil] at this; exact this
          have HP := Lib.hid (show ProofTop l (k : Int) w (.returned (.tuple #[.slice A5 sd.length c5, .int .i64 0])) wr from
            ⟨_, by rw [HPF.out], by rw [HPT.out, ← hfin]; exact sides_read HO.out (fun s hs => by rw [HSX.out s hs]; unfold maxLen; omega), HB2.out.trans (HB3.out.mono HB2.out.size)⟩)
          clear hfin HPO HO HSX
          go_wp2_with fail
          go_ret2
          exact HP.out
    · have HPF : Hid (proofFault l n = 1) := Lib.hid (by rw [proofFault, if_neg (by rw [HF.out]; decide), if_neg hr])
      have HP := Lib.hid (show ProofTop l n w (.returned (.tuple #[.slice none 0 0, .int .i64 1])) w1 from ⟨_, by rw [HPF.out], by rw [proofTopL, if_neg (by rw [HPF.out]; decide)]; exact Rp.sl_nil _ _ _, HB1.out⟩)
      go_wp2_with fail
      refine (cwithin_any _ _ _ _).mono ?_
      rintro e w1' ⟨rfl, rfl⟩
      rw [show withinB n 0 ((l.length : Int) - 1) = false from decide_eq_false (fun h => hr ⟨h.1, by omega⟩)]
      go_wp2_with fail
      go_ret2
      exact HP.out
  · have HP := Lib.hid (show ProofTop l n w (.returned (.tuple #[.slice none 0 0, .int .i64 (leavesFault l)])) w1 from ⟨_, by rw [proofFault, if_pos hf], by rw [proofTopL, if_neg (by rw [proofFault, if_pos hf]; exact hf)]; exact Rp.sl_nil _ _ _, HB1.out⟩)
    generalize leavesFault l = f at *
    go_wp2_with fail
    go_ret2
    exact HP.out
end Go.Proofs.YtnnoolemmnailaaDoor
