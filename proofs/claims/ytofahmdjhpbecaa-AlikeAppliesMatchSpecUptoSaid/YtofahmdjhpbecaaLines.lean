/-
  'lines' of both packages.
-/
import Derived.Test.YtofahmdjhpbecaaProg
import Derived.Test.YtofahmdjhpbecaaWords
import Derived.Test.YtofahmdjhpbecaaStr
import Derived.Lib.Bytealg
namespace Go.Proofs.Ytofahmdjhpbecaa
open Go.RowKit
set_option linter.unusedVariables false
set_option linter.unusedSimpArgs false

/-- How long the first line of a text is. -/
def lnLen : List UInt8 → Nat
  | [] => 0
  | c :: t => if c = 10 then 1 else lnLen t + 1
theorem lnLen_le : ∀ t, lnLen t ≤ t.length
  | [] => Nat.le_refl _
  | c :: t => by
    have := lnLen_le t
    rw [lnLen, List.length_cons]; split <;> omega
theorem lnLen_pos : ∀ {t}, t ≠ [] → 0 < lnLen t
  | [], h => absurd rfl h
  | c :: t, _ => by rw [lnLen]; split <;> omega
theorem lnLen_pos' {c : UInt8} {t : List UInt8} : 0 < lnLen (c :: t) := lnLen_pos (by simp)
/-- The lines of a text. -/
def linesL (t : List UInt8) : List (List UInt8) :=
  match t with
  | [] => []
  | c :: t => (c :: t).take (lnLen (c :: t)) :: linesL ((c :: t).drop (lnLen (c :: t)))
termination_by t.length
decreasing_by have := @lnLen_pos' c t; simp only [List.length_drop, List.length_cons]; omega
theorem linesL_nil : linesL [] = [] := by rw [linesL]
theorem linesL_cons {t : List UInt8} (h : t ≠ []) : linesL t = t.take (lnLen t) :: linesL (t.drop (lnLen t)) := by
  cases t with
  | nil => exact absurd rfl h
  | cons c t => rw [linesL]

theorem index_ln : ∀ t, (Lib.indexByte t 10 = -1 ∧ lnLen t = t.length) ∨ (∃ n : Nat, Lib.indexByte t 10 = n ∧ lnLen t = n + 1)
  | [] => .inl ⟨rfl, rfl⟩
  | c :: t => by
    by_cases hc : c = 10
    · right
      exact ⟨0, by rw [Lib.indexByte, if_pos (by simp [hc])]; rfl, by rw [lnLen, if_pos hc]⟩
    · rw [Lib.indexByte, if_neg (by simp [hc]), lnLen, if_neg hc]
      rcases index_ln t with ⟨h1, h2⟩ | ⟨n, h1, h2⟩
      · left; rw [h1]; exact ⟨rfl, by rw [h2, List.length_cons]⟩
      · right; rw [h1]; exact ⟨n + 1, by rw [if_neg (by simp only [beq_iff_eq]; omega)]; rfl, by omega⟩

theorem lnLen_app {a b : List UInt8} (h : ∀ x ∈ a, x ≠ 10) : lnLen (a ++ b) = a.length + lnLen b := by
  induction a with
  | nil => simp
  | cons c a ih =>
    rw [List.cons_append, lnLen, if_neg (h c (by simp)), ih (fun x hx => h x (by simp [hx])), List.length_cons]; omega
theorem lines_step {t : List UInt8} {k j : Nat} (hkj : k ≤ j) (hj : j < t.length) (hn : ∀ x ∈ (t.drop k).take (j - k), x ≠ 10) (h : t[j] = 10) :
    linesL (t.drop k) = (t.drop k).take (j + 1 - k) :: linesL (t.drop (j + 1)) := by
  have hne : t.drop k ≠ [] := fun e => by have := congrArg List.length e; simp at this; omega
  have hlen : lnLen (t.drop k) = j + 1 - k := by
    have e : t.drop k = (t.drop k).take (j - k) ++ (t[j] :: t.drop (j + 1)) := by
      have := (List.take_append_drop (j - k) (t.drop k)).symm
      rw [List.drop_drop, show k + (j - k) = j by omega, List.drop_eq_getElem_cons hj] at this
      exact this
    rw [e, lnLen_app hn, lnLen, if_pos h, List.length_take, List.length_drop]; omega
  rw [linesL_cons hne, hlen, List.drop_drop, show k + (j + 1 - k) = j + 1 by omega]
theorem lines_more {t : List UInt8} {k j : Nat} (hkj : k ≤ j) (hj : j < t.length) (hn : ∀ x ∈ (t.drop k).take (j - k), x ≠ 10) (h : t[j] ≠ 10) : ∀ x ∈ (t.drop k).take (j + 1 - k), x ≠ 10 := by
  intro x hx
  rw [show j + 1 - k = (j - k) + 1 by omega, List.take_succ_eq_append_getElem (by simp; omega), List.mem_append, List.mem_singleton] at hx
  rcases hx with hx | rfl
  · exact hn x hx
  · rw [List.getElem_drop]; simpa [show k + (j - k) = j by omega] using h
theorem lines_last {t : List UInt8} {k : Nat} (hk : k < t.length) (hn : ∀ x ∈ (t.drop k).take (t.length - k), x ≠ 10) : linesL (t.drop k) = [t.drop k] := by
  have hne : t.drop k ≠ [] := fun e => by have := congrArg List.length e; simp at this; omega
  rw [List.take_of_length_le (by simp)] at hn
  have hlen : lnLen (t.drop k) = (t.drop k).length := by
    have := lnLen_app (b := []) hn
    simpa [lnLen] using this
  rw [linesL_cons hne, hlen, List.take_length, List.drop_length, linesL_nil]

set_option maxRecDepth 100000 in
set_option maxHeartbeats 400000 in
theorem indexByte_any (s : ByteArray) (c : Int) (w : World) :
    Calls Try.prog 91 #[.string s, .int .u8 c] w fun e w' => e = .returned (.int .i64 (Lib.indexByte s.data.toList c.toNat.toUInt8)) ∧ w = w' := by
  go_enter Try.func91, Try.ntmps91
  go_wp2
  rw [run_callFunc_extern Try.func109 (by kernel_rfl) (by kernel_rfl) (by kernel_rfl) (e := Extern.BytealgIndexByte.indexByte) (by kernel_rfl), Lib.run_indexByteString]
  simp only [Result.andThen]
  rw [Oper.upon_value]
  go_wp2
  go_ret
  exact ⟨rfl, rfl⟩

def LinesPost (t : List UInt8) (w : World) (e : Ending) (w' : World) : Prop :=
  ∃ v, e = .returned v ∧ w'.ownsRow w.heap.size 9 1 v (linesL t).length (strs (linesL t)) ∧ Below w.heap.size w w'

set_option maxRecDepth 100000 in
set_option maxHeartbeats 1000000 in
theorem lines_any (t : List UInt8) (w : World) (ht : t.length ≤ 20000) :
    Calls Try.prog 71 #[.string (bstr t)] w (LinesPost t w) := by
  go_enter Try.func71, Try.ntmps71
  go_wp2
  go_loopw [0, 3] (fun s out wr => ∃ t' l, s = .string (bstr t') ∧ l.length + t'.length ≤ t.length ∧ Hid (l ++ linesL t' = linesL t) ∧ Hid (wr.ownsRow w.heap.size 9 1 out l.length (strs l)) ∧ Hid (Below w.heap.size w wr)) (fun s _ _ => strSize s)
  case atStart => exact ⟨t, [], rfl, by simp, by simp [Hid], World.ownsRow_nil _ _ _ _, Below.refl _ _⟩
  case round =>
    obtain ⟨t', l, rfl, hlen, HL, HO, HW⟩ := hrel
    have hsz : (bstr t').size = t'.length := rfl
    have hwsz := HW.out.size
    by_cases hne : t' = []
    · have he := bstr_empty hne
      have hfin : Hid (LinesPost t w (.returned u3) wr) := by
        have := HL.out
        rw [hne, linesL_nil, List.append_nil] at this
        rw [this] at HO
        exact ⟨_, rfl, HO.out, HW.out⟩
      clear hne
      go_wp2
      go_ret
      exact hfin.out
    · have he := bstr_some hne
      have hpos := lnLen_pos hne
      have hle := lnLen_le t'
      have hstep : Hid ((l ++ [t'.take (lnLen t')]) ++ linesL (t'.drop (lnLen t')) = linesL t) := by
        rw [← HL.out, linesL_cons hne, List.append_assoc]; rfl
      have hidx := index_ln t'
      have E1 := Lib.hid (extract_head t' (lnLen t'))
      have E2 := Lib.hid (extract_tail t' (lnLen t'))
      clear hne
      go_wp2_with fail
      refine (indexByte_any _ _ _).mono ?_
      rintro e w1 ⟨rfl, rfl⟩
      rw [show (Int.toNat 10).toUInt8 = 10 from rfl, bstr_data]
      have done : ∀ (w1 : World) (g c : Nat), Hid (w1.ownsRow w.heap.size 9 1 (.slice (some ⟨g, 0, none⟩) (l.length + 1) c) (l.length + 1) (strs l ++ [.string (bstr (t'.take (lnLen t')))])) → Hid (∀ w0, Below w.heap.size w0 wr → Below w.heap.size w0 w1) →
          ∃ t'' l', Value.string (bstr (t'.drop (lnLen t'))) = .string (bstr t'') ∧ l'.length + t''.length ≤ t.length ∧ Hid (l' ++ linesL t'' = linesL t) ∧ Hid (w1.ownsRow w.heap.size 9 1 (.slice (some ⟨g, 0, none⟩) (l.length + 1) c) l'.length (strs l')) ∧ Hid (Below w.heap.size w w1) := by
        intro w1 g c h1 h2
        refine ⟨_, l ++ [t'.take (lnLen t')], rfl, by simp only [List.length_append, List.length_drop, List.length_singleton]; omega, hstep, ?_, h2.out _ HW.out⟩
        rw [strs_snoc, List.length_append, List.length_singleton]; exact h1
      have DN := Lib.hid done
      clear done
      rcases hidx with ⟨h1, h2⟩ | ⟨n, h1, h2⟩
      · rw [h1]
        rw [h2] at E1 E2 DN hpos
        clear h1 h2
        go_wp2
        go_region_law (refine step_app_str wr (by rfl) (.tmp 14) (.tmp 18) (by rfl) 1 (by rfl) HO.out hwsz (by rfl) (by rfl) (by omega) ?_; intro g1 cc1 w2 HO1 HG1 HB2 HL1)
        all_goals
          simp only [List.getElem_toArray, List.getElem_cons_succ, List.getElem_cons_zero, Act.put, List.setIfInBounds_toArray, List.set_cons_succ, List.set_cons_zero]
          go_wp2
          go_roundw
          case rel =>
            rw [E1.out] at HO1
            have := DN.out w2 g1 cc1 HO1 HB2
            rw [List.drop_length] at this
            exact this
          case measure => simp [strSize]; omega
      · rw [h1]
        rw [h2] at E1 E2 DN hpos hle
        have hi0 : (0 : Int) ≤ n + 1 := by omega
        have hi1 : (n : Int) + 1 ≤ t'.length := by omega
        clear h1 h2
        go_wp2
        go_region_law (refine step_app_str wr (by rfl) (.tmp 14) (.tmp 18) (by rfl) 1 (by rfl) HO.out hwsz (by rfl) (by rfl) (by omega) ?_; intro g1 cc1 w2 HO1 HG1 HB2 HL1)
        all_goals
          simp only [List.getElem_toArray, List.getElem_cons_succ, List.getElem_cons_zero, Act.put, List.setIfInBounds_toArray, List.set_cons_succ, List.set_cons_zero]
          go_wp2
          go_roundw
          case rel =>
            rw [E1.out] at HO1
            rw [E2.out]
            exact DN.out w2 g1 cc1 HO1 HB2
          case measure => rw [E2.out]; simp [strSize, bstr_size]; omega

set_option maxRecDepth 100000 in
set_option maxHeartbeats 1000000 in
theorem refLines_any (t : List UInt8) (w : World) (ht : t.length ≤ 20000) :
    Calls Try.prog 72 #[.string (bstr t)] w (LinesPost t w) := by
  have hsz : (bstr t).size = t.length := rfl
  go_enter Try.func72, Try.ntmps72
  go_wp2
  go_loopw [3, 4, 8] (fun out from_ i wr => ∃ (k j : Nat) (l : List (List UInt8)), k ≤ j ∧ j ≤ t.length ∧ l.length ≤ k ∧ i = .int .i64 j ∧ from_ = .int .i64 k ∧ Hid (∀ x ∈ (t.drop k).take (j - k), x ≠ 10) ∧ Hid (l ++ linesL (t.drop k) = linesL t) ∧ Hid (wr.ownsRow w.heap.size 9 1 out l.length (strs l)) ∧ Hid (Below w.heap.size w wr)) (fun _ _ i _ => t.length - (intOf i).toNat)
  case atStart => exact ⟨0, 0, [], by omega, by omega, by simp, rfl, rfl, by simp [Hid], by simp [Hid], World.ownsRow_nil _ _ _ _, Below.refl _ _⟩
  case round =>
    obtain ⟨k, j, l, hkj, hj, hll, rfl, rfl, HN, HL, HO, HW⟩ := hrel
    have hwsz := HW.out.size
    by_cases hlt : j < t.length
    · by_cases hn : ((bstr t)[j]'hlt) = 10
      · have hn' : (((bstr t)[j]'hlt).toNat : Int) = 10 := by rw [hn]; rfl
        have hst := Lib.hid (lines_step hkj hlt HN.out hn)
        clear hn
        go_wp2_with (at_builtin; refine app_str rfl (.tmp 15) (.tmp 21) rfl HO.out hwsz rfl rfl (by omega) ?_; intro g1 cc1 w2 HO1 HG1 HB2 HL1)
        go_roundw
        case rel =>
          refine ⟨j + 1, j + 1, l ++ [(t.drop k).take (j + 1 - k)], by omega, by omega, by simp; omega, by go_num, by go_num, ?_, ?_, ?_, HB2.out _ HW.out⟩
          · rw [Nat.sub_self]; exact fun x hx => by simp at hx
          · rw [← HL.out, hst.out, List.append_assoc]; rfl
          · rw [strs_snoc, List.length_append, List.length_singleton, ← extract_bstr]; exact HO1
        case measure => simp [intOf]; omega
      · have hn' : (((((bstr t)[j]'hlt).toNat : Nat) : Int) == 10) = false := by
          rw [beq_eq_false_iff_ne]
          intro e
          exact hn (UInt8.toNat_inj.1 (by have : UInt8.toNat 10 = 10 := rfl; omega))
        have hst := Lib.hid (lines_more hkj hlt HN.out hn)
        clear hn
        go_wp2
        go_roundw
        case rel => exact ⟨k, j + 1, l, by omega, by omega, hll, by go_num, rfl, hst, HL, HO, HW⟩
        case measure => simp [intOf]; omega
    · obtain rfl : j = t.length := by omega
      by_cases hk : k < t.length
      · have hst := lines_last hk HN.out
        have HE := Lib.hid (extract_tail t k)
        have hfin : ∀ (w2 : World) (v : Value), Hid (w2.ownsRow w.heap.size 9 1 v (l.length + 1) (strs l ++ [.string (bstr (t.drop k))])) → Below w.heap.size w w2 → LinesPost t w (.returned v) w2 := by
          intro w2 v h1 h2
          refine ⟨v, rfl, ?_, h2⟩
          rw [← HL.out, hst, strs_snoc, List.length_append, List.length_singleton]
          exact h1.out
        have HF := Lib.hid hfin
        clear hst hfin
        go_wp2_with (at_builtin; refine app_str rfl (.tmp 30) (.tmp 34) rfl HO.out hwsz rfl rfl (by omega) ?_; intro g1 cc1 w2 HO1 HG1 HB2 HL1)
        rw [HE.out] at HO1
        go_ret
        exact HF.out _ _ HO1 (HB2.out _ HW.out)
      · obtain rfl : k = t.length := by omega
        have hfin : Hid (LinesPost t w (.returned u3) wr) := by
          have := HL.out
          rw [List.drop_length, linesL_nil, List.append_nil] at this
          rw [this] at HO
          exact ⟨_, rfl, HO.out, HW.out⟩
        go_wp2
        go_ret
        exact hfin.out
end Go.Proofs.Ytofahmdjhpbecaa
