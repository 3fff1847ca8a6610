/-
  What a page of one paragraph says, in plain words: the text with its blanks made one; its words are those of the text.
  The scanner of package page: 'has', 'some', 'name' at any page; what is a blank, a letter, part of a name.
  The scanner of package page: 'has', 'some', 'name' at any page.
  The scanner of package page: 'name', 'comment', 'close', 'open', 'attribute', 'token' at the tag of a paragraph.
  The scanner of package page: 'open', 'token' at the tag of a paragraph.
  'tokens' of package page at a page of one paragraph.
  'tokens' of package page at a page of one paragraph: the loop.
-/
import Derived.Test.YtnkdcmibafjplaaGreatDoorWords
import Derived.Test.YtnkdcmibafjplaaGreatDoorProg
import Derived.Test.YtnkdcmibafjplaaGreatDoorStr
import Derived.Test.YtnkdcmibafjplaaGreatDoorAddrAll
import Derived.Laws.ResultCell
import Derived.Laws.Rows
namespace Go.Proofs.YtnkdcmibafjplaaGreatDoor
open Go.RowKit
set_option linter.unusedVariables false
set_option linter.unusedSimpArgs false

def blkB (c : UInt8) : Bool := decide (c = 9) || decide (c = 10) || decide (c = 12) || decide (c = 13) || decide (c = 32)
theorem blk_cases {c : UInt8} (h : blkB c = true) : c = 9 ∨ c = 10 ∨ c = 12 ∨ c = 13 ∨ c = 32 := by
  simpa [blkB, or_assoc] using h
theorem blk_word {c : UInt8} (h : blkB c = true) : isW c.toNat = false := by
  rcases blk_cases h with rfl | rfl | rfl | rfl | rfl <;> decide
def tStep (b : List UInt8) (c : UInt8) : List UInt8 := if blkB c = false then b ++ [c] else if b ≠ [] ∧ b.getLast? ≠ some 32 then b ++ [32] else b
/-- The first i bytes of a text with each row of blanks made one. -/
def tAt (t : List UInt8) (i : Nat) : List UInt8 := (t.take i).foldl tStep []
def chop (b : List UInt8) : List UInt8 := if b.getLast? = some 32 then b.dropLast else b
def tidyL (t : List UInt8) : List UInt8 := chop (tAt t t.length)
theorem tAt_zero (t : List UInt8) : tAt t 0 = [] := by simp [tAt]
theorem tAt_succ {t : List UInt8} {i : Nat} (h : i < t.length) : tAt t (i + 1) = tStep (tAt t i) t[i] := by
  unfold tAt
  rw [List.take_succ_eq_append_getElem h, List.foldl_append]; rfl
theorem tStep_len (b : List UInt8) (c : UInt8) : (tStep b c).length ≤ b.length + 1 := by
  unfold tStep
  split
  · simp
  · split <;> simp
theorem tAt_len (t : List UInt8) : ∀ i, i ≤ t.length → (tAt t i).length ≤ i
  | 0, _ => by simp [tAt_zero]
  | i + 1, h => by
    have h1 := tAt_len t i (by omega)
    have h2 := tStep_len (tAt t i) t[i]
    rw [tAt_succ (by omega)]
    omega
theorem chop_len (b : List UInt8) : (chop b).length ≤ b.length := by
  unfold chop
  split
  · rw [List.length_dropLast]; omega
  · exact Nat.le_refl _
theorem tidyL_len (t : List UInt8) : (tidyL t).length ≤ t.length := Nat.le_trans (chop_len _) (tAt_len t _ (Nat.le_refl _))
/-- The words gathered. -/
def wG (t : List UInt8) : List (List UInt8) × List UInt8 := t.foldl wStep ([], [])
theorem wG_snoc (t : List UInt8) (c : UInt8) : wG (t ++ [c]) = wStep (wG t) c := by unfold wG; rw [List.foldl_append]; rfl
theorem wordsL_eq (t : List UInt8) : wordsL t = (wFlush (wG t)).1 := by
  unfold wordsL wG
  rw [wAt_end, wAt, if_pos (Nat.le_refl _), List.take_length]
theorem wStep_blank {c : UInt8} (s : List (List UInt8) × List UInt8) (h : isW c.toNat = false) : wStep s c = wFlush s := by
  rw [wStep, if_neg (by rw [h]; decide), wFlush]
theorem flush_two (s : List (List UInt8) × List UInt8) : wFlush (wFlush s) = wFlush s := by
  by_cases h : s.2 = []
  · rw [show wFlush s = s from if_pos h, show wFlush s = s from if_pos h]
  · rw [show wFlush s = (s.1 ++ [s.2], []) from if_neg h]
    exact if_pos rfl
theorem flush_empty (s : List (List UInt8) × List UInt8) : (wFlush s).2 = [] := by
  by_cases h : s.2 = []
  · rw [show wFlush s = s from if_pos h]; exact h
  · rw [show wFlush s = (s.1 ++ [s.2], []) from if_neg h]
theorem last32 {b : List UInt8} (h : b.getLast? = some 32) : b = b.dropLast ++ [32] := by
  obtain ⟨l, e⟩ := List.getLast?_eq_some_iff.1 h
  rw [e, List.dropLast_concat]
theorem tAt_words (t : List UInt8) : ∀ i, i ≤ t.length → wG (tAt t i) = wG (t.take i)
  | 0, _ => by simp [tAt_zero]
  | i + 1, h => by
    have ih := tAt_words t i (by omega)
    rw [tAt_succ (by omega), List.take_succ_eq_append_getElem (by omega), wG_snoc, ← ih]
    unfold tStep
    by_cases hb : blkB t[i] = false
    · rw [if_pos hb, wG_snoc]
    · have hb : blkB t[i] = true := by simpa using hb
      rw [if_neg (by rw [hb]; decide), wStep_blank _ (blk_word hb)]
      split
      · rw [wG_snoc, wStep_blank _ (by decide)]
      · rename_i hn
        by_cases he : tAt t i = []
        · rw [he]; rfl
        · have hl : (tAt t i).getLast? = some 32 := Classical.byContradiction fun q => hn ⟨he, q⟩
          rw [last32 hl, wG_snoc, wStep_blank _ (by decide), flush_two]
theorem tidy_words (t : List UInt8) : wordsL (tidyL t) = wordsL t := by
  have h := tAt_words t t.length (Nat.le_refl _)
  rw [List.take_length] at h
  rw [wordsL_eq, wordsL_eq, ← h]
  unfold tidyL chop
  split
  · rename_i hl
    have e := last32 hl
    generalize tAt t t.length = b at *
    rw [e, List.dropLast_concat, wG_snoc, wStep_blank _ (by decide), flush_two]
  · rfl
/-- A byte that stands for itself, or its sign. -/
def safeC (c : UInt8) : List UInt8 := if c = 38 then [38, 97, 109, 112, 59] else if c = 60 then [38, 108, 116, 59] else if c = 62 then [38, 103, 116, 59] else if c = 34 then [38, 113, 117, 111, 116, 59] else if c = 39 then [38, 35, 51, 57, 59] else [c]
def safeL (t : List UInt8) : List UInt8 := t.flatMap safeC
theorem safeC_len (c : UInt8) : 1 ≤ (safeC c).length ∧ (safeC c).length ≤ 6 := by
  unfold safeC
  repeat' split
  all_goals first | decide | simp
theorem safeL_len : ∀ t : List UInt8, t.length ≤ (safeL t).length ∧ (safeL t).length ≤ 6 * t.length
  | [] => by simp [safeL]
  | c :: t => by
    have h1 := safeL_len t
    have h2 := safeC_len c
    unfold safeL at h1 ⊢
    rw [List.flatMap_cons, List.length_append, List.length_cons]
    omega
theorem safeC_no {c : UInt8} : ∀ x ∈ safeC c, x ≠ 60 := by
  unfold safeC
  split
  · decide
  · split
    · decide
    · split
      · decide
      · split
        · decide
        · split
          · decide
          · intro x hx
            rw [List.mem_singleton] at hx
            subst hx
            assumption
theorem safeL_no {t : List UInt8} : ∀ x ∈ safeL t, x ≠ 60 := by
  intro x hx
  obtain ⟨c, _, hc⟩ := List.mem_flatMap.1 hx
  exact safeC_no x hc
theorem safeL_snoc {t : List UInt8} {i : Nat} (h : i < t.length) : safeL (t.take (i + 1)) = safeL (t.take i) ++ safeC t[i] := by
  rw [List.take_succ_eq_append_getElem h]
  unfold safeL
  rw [List.flatMap_append, List.flatMap_cons, List.flatMap_nil, List.append_nil]
theorem safeL_drop {t : List UInt8} {i : Nat} (h : i < t.length) : safeL (t.drop i) = safeC t[i] ++ safeL (t.drop (i + 1)) := by
  rw [List.drop_eq_getElem_cons h]
  rfl
end Go.Proofs.YtnkdcmibafjplaaGreatDoor
namespace Go.Proofs.YtnkdcmibafjplaaGreatDoor
open Go.RowKit
set_option linter.unusedVariables false
set_option linter.unusedSimpArgs false

def scn (p : List UInt8) (i : Nat) : List Value := [.string (bstr p), .int .i64 (i : Nat)]
def preB (x s : List UInt8) : Bool := decide (s.take x.length = x)
set_option maxRecDepth 100000 in
set_option maxHeartbeats 1000000 in
theorem hasPre0_any (s x : List UInt8) (w : World) (hs : s.length ≤ 1000000) (hx : x.length ≤ 1000) : Calls Tryz.prog 100 #[.string (bstr s), .string (bstr x)] w fun e w' => e = .returned (.bool (preB x s)) ∧ w' = w := by
  by_cases h : x.length ≤ s.length
  · have h' : (x.length : Int) ≤ (s.length : Int) := by omega
    have e := extract_head s x.length
    obtain ⟨b, hb⟩ : ∃ b, preB x s = b := ⟨_, rfl⟩
    have hc : ((bstr (s.take x.length)).toList == (bstr x).toList) = b := by
      rw [← hb, str_dec]
      unfold preB
      exact decide_eq_decide.2 ⟨bstr_inj, fun h => by rw [h]⟩
    rw [hb]
    clear hb
    go_enter Tryz.func100, Tryz.ntmps100
    go_wp2_with fail
    go_ret
    exact ⟨by first | rfl | (show Ending.returned (.bool (((bstr s).extract 0 (bstr x).size).toList == (bstr x).toList)) = _; rw [bstr_size, e, hc]), rfl⟩
  · have h' : ¬ (x.length : Int) ≤ (s.length : Int) := by omega
    have hb : preB x s = false := decide_eq_false fun e => h (by rw [← e]; rw [List.length_take]; exact Nat.min_le_right _ _)
    rw [hb]
    clear hb
    go_enter Tryz.func100, Tryz.ntmps100
    go_wp2_with fail
    go_ret
    exact ⟨rfl, rfl⟩
set_option maxRecDepth 100000 in
set_option maxHeartbeats 1000000 in
theorem hasPre_any (s x : List UInt8) (w : World) (hs : s.length ≤ 1000000) (hx : x.length ≤ 1000) : Calls Tryz.prog 61 #[.string (bstr s), .string (bstr x)] w fun e w' => e = .returned (.bool (preB x s)) ∧ w' = w := by
  go_enter Tryz.func61, Tryz.ntmps61
  go_wp2_with fail
  refine (hasPre0_any s x w hs hx).mono ?_
  rintro e w1 ⟨rfl, rfl⟩
  go_wp2_with fail
  go_ret
  exact ⟨rfl, rfl⟩
/-! ### Kinds of bytes -/
def letB (n : Nat) : Bool := decide (97 ≤ n ∧ n ≤ 122) || decide (65 ≤ n ∧ n ≤ 90)
def tagB (n : Nat) : Bool := letB n || decide (48 ≤ n ∧ n ≤ 57) || decide (n = 45)
def blkN (n : Nat) : Bool := decide (n = 9) || decide (n = 10) || decide (n = 12) || decide (n = 13) || decide (n = 32)
theorem blkN_eq (c : UInt8) : blkN c.toNat = blkB c := by
  have h : ∀ k : UInt8, (c.toNat = k.toNat) = (c = k) := fun k => propext ⟨fun e => UInt8.toNat_inj.1 e, fun e => by rw [e]⟩
  unfold blkN blkB
  exact congr (congrArg _ (congr (congrArg _ (congr (congrArg _ (congr (congrArg _ (decide_eq_decide.2 (iff_of_eq (h 9)))) (decide_eq_decide.2 (iff_of_eq (h 10))))) (decide_eq_decide.2 (iff_of_eq (h 12))))) (decide_eq_decide.2 (iff_of_eq (h 13))))) (decide_eq_decide.2 (iff_of_eq (h 32)))
set_option maxRecDepth 100000 in
set_option maxHeartbeats 1000000 in
theorem isLetterP_any (n : Nat) (w : World) (hn : n < 256) : Calls Tryz.prog 206 #[.int .u8 (n : Int)] w fun e w' => e = .returned (.bool (letB n)) ∧ w' = w := by
  have key : n < 65 ∨ (65 ≤ n ∧ n ≤ 90) ∨ (90 < n ∧ n < 97) ∨ (97 ≤ n ∧ n ≤ 122) ∨ 122 < n := by omega
  obtain ⟨b, hb⟩ : ∃ b, letB n = b := ⟨_, rfl⟩
  have HB := Lib.hid hb
  rw [hb]
  clear hb
  rcases key with h | ⟨h, h2⟩ | ⟨h, h2⟩ | ⟨h, h2⟩ | h
  all_goals
    first
    | have d1 : decide ((n : Int) ≤ 90) = true := decide_eq_true (by omega)
    | have d1 : decide ((n : Int) ≤ 90) = false := decide_eq_false (by omega)
    first
    | have d2 : decide ((n : Int) ≤ 122) = true := decide_eq_true (by omega)
    | have d2 : decide ((n : Int) ≤ 122) = false := decide_eq_false (by omega)
    go_enter Tryz.func206, Tryz.ntmps206
    go_wp2_with fail
    go_ret
    refine ⟨?_, rfl⟩
    rw [← HB.out]
    unfold letB
    first
    | rw [decide_eq_true (show 97 ≤ n ∧ n ≤ 122 by omega)]; rfl
    | rw [decide_eq_false (show ¬ (97 ≤ n ∧ n ≤ 122) by omega), decide_eq_true (show 65 ≤ n ∧ n ≤ 90 by omega)]; rfl
    | rw [decide_eq_false (show ¬ (97 ≤ n ∧ n ≤ 122) by omega), decide_eq_false (show ¬ (65 ≤ n ∧ n ≤ 90) by omega)]; rfl
set_option maxRecDepth 100000 in
set_option maxHeartbeats 1000000 in
theorem blank_any (n : Nat) (w : World) (hn : n < 256) : Calls Tryz.prog 63 #[.int .u8 (n : Int)] w fun e w' => e = .returned (.bool (blkN n)) ∧ w' = w := by
  by_cases h : n = 9 ∨ n = 10 ∨ n = 12 ∨ n = 13 ∨ n = 32
  · rcases h with rfl | rfl | rfl | rfl | rfl
    all_goals
      go_enter Tryz.func63, Tryz.ntmps63
      go_wp2_with fail
      go_ret
      exact ⟨rfl, rfl⟩
  · have hb : blkN n = false := by unfold blkN; simp; omega
    rw [hb]
    have h1 : ((n : Int) == 9) = false := by rw [beq_eq_false_iff_ne]; omega
    have h2 : ((n : Int) == 10) = false := by rw [beq_eq_false_iff_ne]; omega
    have h3 : ((n : Int) == 12) = false := by rw [beq_eq_false_iff_ne]; omega
    have h4 : ((n : Int) == 13) = false := by rw [beq_eq_false_iff_ne]; omega
    have h5 : ((n : Int) == 32) = false := by rw [beq_eq_false_iff_ne]; omega
    clear hb h
    go_enter Tryz.func63, Tryz.ntmps63
    go_wp2_with fail
    go_ret
    exact ⟨rfl, rfl⟩
set_option maxRecDepth 100000 in
set_option maxHeartbeats 1000000 in
theorem inTag_any (n : Nat) (w : World) (hn : n < 256) : Calls Tryz.prog 183 #[.int .u8 (n : Int)] w fun e w' => e = .returned (.bool (tagB n)) ∧ w' = w := by
  have hc := isLetterP_any n w hn
  cases hl : letB n with
  | true =>
    have hb : tagB n = true := by unfold tagB; rw [hl]; rfl
    rw [hb]
    rw [hl] at hc
    clear hb hl
    go_enter Tryz.func183, Tryz.ntmps183
    go_wp2_with fail
    refine hc.mono ?_
    rintro e w1 ⟨rfl, rfl⟩
    clear hc
    go_wp2_with fail
    go_ret
    exact ⟨rfl, rfl⟩
  | false =>
    have HL := Lib.hid hl
    rw [hl] at hc
    have HC := Lib.hid hc
    clear hl hc
    by_cases h45 : n = 45
    · subst h45
      go_enter Tryz.func183, Tryz.ntmps183
      go_wp2_with fail
      refine HC.out.mono ?_
      rintro e w1 ⟨rfl, rfl⟩
      go_wp2_with fail
      go_ret
      exact ⟨rfl, rfl⟩
    have h3 : ((n : Int) == 45) = false := by rw [beq_eq_false_iff_ne]; omega
    obtain ⟨b, hb⟩ : ∃ b, tagB n = b := ⟨_, rfl⟩
    have HB := Lib.hid hb
    rw [hb]
    clear hb
    have key : n < 48 ∨ (48 ≤ n ∧ n ≤ 57) ∨ 57 < n := by omega
    rcases key with h | ⟨h, h2⟩ | h
    all_goals
      first
      | have d1 : decide ((n : Int) ≤ 57) = true := decide_eq_true (by omega)
      | have d1 : decide ((n : Int) ≤ 57) = false := decide_eq_false (by omega)
      go_enter Tryz.func183, Tryz.ntmps183
      go_wp2_with fail
      refine HC.out.mono ?_
      rintro e w1 ⟨rfl, rfl⟩
      go_wp2_with fail
      go_ret
      refine ⟨?_, rfl⟩
      rw [← HB.out]
      unfold tagB
      rw [HL.out]
      first
      | rw [decide_eq_true (show 48 ≤ n ∧ n ≤ 57 by omega)]; rfl
      | rw [decide_eq_false (show ¬ (48 ≤ n ∧ n ≤ 57) by omega), decide_eq_false h45]; rfl
end Go.Proofs.YtnkdcmibafjplaaGreatDoor
namespace Go.Proofs.YtnkdcmibafjplaaGreatDoor
open Go.RowKit
set_option linter.unusedVariables false
set_option linter.unusedSimpArgs false

set_option maxRecDepth 100000 in
set_option maxHeartbeats 2000000 in
theorem has_any (sb : Nat) (p x : List UInt8) (i : Nat) (w : World) (hk : Blk w sb 179 (scn p i)) (hi : i ≤ p.length) (hp : p.length ≤ 1000000) (hx : x.length ≤ 1000) :
    Calls Tryz.prog 180 #[.pointer (some ⟨sb, 0, none⟩), .string (bstr x)] w fun e w' => e = .returned (.bool (preB x (p.drop i))) ∧ ∃ n, w' = w.drewN n := by
  have c0 : w.cell? ⟨sb, 0, none⟩ = some (.string (bstr p)) := hk.cell 0
  have c1 : w.cell? ⟨sb, 1, none⟩ = some (.int .i64 (i : Nat)) := hk.cell 1
  have hlt := hk.lt
  have hi' : (i : Int) ≤ (p.length : Int) := by omega
  have ex : (bstr p).extract i (bstr p).size = bstr (p.drop i) := extract_tail p i
  have hs1 : (i : Int) ≤ ((bstr p).size : Int) := hi'
  have hs2 : i ≤ (bstr p).size := hi
  have HC := Lib.hid (fun w' => hasPre_any (p.drop i) x w' (by rw [List.length_drop]; omega) hx)
  clear hk
  go_enter Tryz.func180, Tryz.ntmps180
  go_wp2_with fail
  go_quiet ((go_at_call 61; exact Calls.quiet_of_same (HC.out _)))
  go_wp2_with fail
  go_ret
  exact ⟨rfl, _, rfl⟩
/-! ### The first bytes of one kind -/
def twl (q : Nat → Bool) (p : List UInt8) (i : Nat) : Nat := ((p.drop i).takeWhile fun c => q c.toNat).length
theorem tw_in {q : UInt8 → Bool} : ∀ {s : List UInt8} {j : Nat}, j < (s.takeWhile q).length → ∃ h : j < s.length, q s[j] = true
  | [], j, h => by simp at h
  | c :: s, j, h => by
    rw [List.takeWhile_cons] at h
    by_cases hc : q c = true
    · rw [if_pos hc] at h
      cases j with
      | zero => exact ⟨by simp, hc⟩
      | succ j =>
        obtain ⟨h1, h2⟩ := tw_in (s := s) (j := j) (by simpa using h)
        exact ⟨by simpa using h1, by simpa using h2⟩
    · rw [if_neg hc] at h
      simp at h
theorem tw_end {q : UInt8 → Bool} : ∀ {s : List UInt8} (h : (s.takeWhile q).length < s.length), q (s[(s.takeWhile q).length]'h) = false
  | [], h => by simp at h
  | c :: s, h => by
    by_cases hc : q c = true
    · have e : (c :: s).takeWhile q = c :: s.takeWhile q := by rw [List.takeWhile_cons, if_pos hc]
      have h' : (s.takeWhile q).length < s.length := by rw [e] at h; simpa using h
      have := tw_end h'
      simpa [e] using this
    · have e : (c :: s).takeWhile q = [] := by rw [List.takeWhile_cons, if_neg hc]
      simp only [e, List.length_nil, List.getElem_cons_zero]
      simpa using hc
theorem twl_le {q : Nat → Bool} {p : List UInt8} {i : Nat} (h : i ≤ p.length) : i + twl q p i ≤ p.length := by
  unfold twl
  have := (List.takeWhile_prefix (fun c : UInt8 => q c.toNat) (l := p.drop i)).length_le
  rw [List.length_drop] at this
  omega
theorem twl_in {q : Nat → Bool} {p : List UInt8} {i j : Nat} (h : j < twl q p i) : ∃ h' : i + j < p.length, q (p[i + j]'h').toNat = true := by
  obtain ⟨h1, h2⟩ := tw_in h
  rw [List.length_drop] at h1
  exact ⟨by omega, by simpa using h2⟩
theorem twl_end {q : Nat → Bool} {p : List UInt8} {i : Nat} (h : i + twl q p i < p.length) : q (p[i + twl q p i]'h).toNat = false := by
  have h' : ((p.drop i).takeWhile fun c => q c.toNat).length < (p.drop i).length := by rw [List.length_drop]; unfold twl at h; omega
  have := tw_end h'
  simpa [twl] using this
def atOf (w : World) (sb : Nat) : Nat := match w.cell? ⟨sb, 1, none⟩ with | some (.int _ n) => n.toNat | _ => 0
theorem atOf_blk {w : World} {sb : Nat} {p : List UInt8} {i : Nat} (h : Blk w sb 179 (scn p i)) : atOf w sb = i := by
  have c1 : w.cell? ⟨sb, 1, none⟩ = some (.int .i64 (i : Nat)) := h.cell 1
  unfold atOf
  rw [c1]
  rfl
theorem Blk.drewN {w : World} {g : Nat} {t : TypeId} {cs : List Value} (h : Blk w g t cs) (n : Nat) : Blk (w.drewN n) g t cs := h.same (same_below (below_drewN (Below.refl _ _) n)) h.lt
theorem grown_setCell (w : World) (b i : Nat) (v : Value) : w.grownBy (w.setCell ⟨b, i, none⟩ v) (some b) :=
  ⟨rfl, rfl, rfl, by simp [World.setCell], fun k _ hk => Below.heap_setCell _ _ _ _ (fun e => hk (by simp [e]))⟩
theorem grown_drewN {a w : World} {r : Option Nat} (h : a.grownBy w r) (n : Nat) : a.grownBy (w.drewN n) r := h.trans (Drawn.grown ⟨n, rfl⟩ r)
theorem scn_set {w : World} {sb k j : Nat} {p : List UInt8} (h : Blk w sb 179 (scn p k)) (n : Nat) (x : Int) (hx : x = (j : Nat)) : Blk ((w.drewN n).setCell ⟨sb, 1, none⟩ (.int .i64 x)) sb 179 (scn p j) := by
  subst hx
  exact (h.drewN n).set_ 1 _
theorem scn_set0 {w : World} {sb k j : Nat} {p : List UInt8} (h : Blk w sb 179 (scn p k)) (x : Int) (hx : x = (j : Nat)) : Blk (w.setCell ⟨sb, 1, none⟩ (.int .i64 x)) sb 179 (scn p j) := by
  subst hx
  exact h.set_ 1 _
theorem scn_cells {w : World} {sb k : Nat} {p : List UInt8} (h : Blk w sb 179 (scn p k)) : w.cell? ⟨sb, 0, none⟩ = some (.string (bstr p)) ∧ w.cell? ⟨sb, 1, none⟩ = some (.int .i64 (k : Nat)) ∧ w.frozen? ⟨sb, 1, none⟩ = false ∧ sb < w.heap.size :=
  ⟨h.cell 0, h.cell 1, h.frozen 1, h.lt⟩
set_option maxRecDepth 100000 in
set_option maxHeartbeats 4000000 in
theorem some_tag (sb : Nat) (p : List UInt8) (i : Nat) (w : World) (hk : Blk w sb 179 (scn p i)) (hi : i ≤ p.length) (hp : p.length ≤ 1000000) :
    Calls Tryz.prog 184 #[.pointer (some ⟨sb, 0, none⟩), .func (.func 183) #[] #[]] w fun e w' => e = .returned (.int .i64 (twl tagB p i : Nat)) ∧ Blk w' sb 179 (scn p (i + twl tagB p i)) ∧ w.grownBy w' (some sb) := by
  have c1 : w.cell? ⟨sb, 1, none⟩ = some (.int .i64 (i : Nat)) := hk.cell 1
  have HK := Lib.hid hk
  have hle := twl_le (q := tagB) hi
  have HM := Lib.hid (fun j (h : j < twl tagB p i) => twl_in h)
  have HE := Lib.hid (fun (h : i + twl tagB p i < p.length) => twl_end h)
  obtain ⟨m, hm⟩ : ∃ m, twl tagB p i = m := ⟨_, rfl⟩
  rw [hm] at hle HM HE ⊢
  clear hk hm
  go_enter Tryz.func184, Tryz.ntmps184
  go_wp2_with fail
  clear c1
  go_loopw [] (fun wr => ∃ k : Nat, i ≤ k ∧ k ≤ i + m ∧ Hid (Blk wr sb 179 (scn p k)) ∧ Hid (w.grownBy wr (some sb))) (fun wr => p.length - atOf wr sb)
  case atStart => exact ⟨i, by omega, by omega, HK, Lib.hid (World.grownBy.refl _ _)⟩
  case round =>
    clear HK
    obtain ⟨k, hk1, hk2, HK, HG⟩ := hrel
    obtain ⟨c0, c1, f1, hlt⟩ := scn_cells HK.out
    by_cases hkp : k < p.length
    · have h1 : (k : Int) < ((bstr p).size : Int) := by rw [bstr_size]; omega
      have h2 : k < (bstr p).size := hkp
      have hb : ((bstr p)[k]'h2).toNat = (p[k]'hkp).toNat := rfl
      have hn : (p[k]'hkp).toNat < 256 := UInt8.toNat_lt _
      by_cases hkm : k < i + m
      · have HQ : Hid (tagB (p[k]'hkp).toNat = true) := Lib.hid (by
          obtain ⟨_, h⟩ := HM.out (k - i) (by omega)
          have e : i + (k - i) = k := by omega
          simpa only [e] using h)
        have HC := Lib.hid (fun w' => inTag_any _ w' hn)
        rw [HQ.out] at HC
        generalize (p[k]'hkp).toNat = c at *
        go_wp2_with fail
        go_quiet ((go_at_call 183; exact Calls.quiet_of_same (HC.out _)))
        go_wp2_with fail
        go_roundw
        case rel =>
          exact ⟨k + 1, by omega, by omega, Lib.hid (scn_set HK.out _ _ (by omega)), Lib.hid ((grown_drewN HG.out _).trans (grown_setCell _ _ _ _))⟩
        case measure =>
          rw [atOf_blk HK.out, atOf_blk (scn_set (j := k + 1) HK.out _ _ (by omega))]
          omega
      · obtain rfl : k = i + m := by omega
        have HQ : Hid (tagB (p[i + m]'hkp).toNat = false) := Lib.hid (HE.out hkp)
        have HC := Lib.hid (fun w' => inTag_any _ w' hn)
        rw [HQ.out] at HC
        generalize (p[i + m]'hkp).toNat = c at *
        have HX : Hid (i + m = i + m) := Lib.hid rfl
        generalize hkk : i + m = k at HK c1 h1 h2 hb hkp HQ HC
        have hw : IntKind.i64.wrap ((k : Int) - (i : Int)) = (m : Int) := by rw [IntWalk.i64_in _ (by omega)]; omega
        have HKK := Lib.hid hkk
        clear hkk
        go_wp2_with fail
        go_quiet ((go_at_call 183; exact Calls.quiet_of_same (HC.out _)))
        go_wp2_with fail
        go_ret
        rw [← HKK.out] at HK
        exact ⟨rfl, HK.out.drewN _, grown_drewN HG.out _⟩
    · obtain rfl : k = p.length := by omega
      have hw : IntKind.i64.wrap ((p.length : Int) - (i : Int)) = (m : Int) := by rw [IntWalk.i64_in _ (by omega)]; omega
      have h1 : ¬ p.length < (bstr p).size := by rw [bstr_size]; omega
      go_wp2_with fail
      go_quiet (fail)
      go_wp2_with fail
      go_ret
      rw [show p.length = i + m by omega] at HK
      exact ⟨rfl, HK.out.drewN _, grown_drewN HG.out _⟩
set_option maxRecDepth 100000 in
set_option maxHeartbeats 4000000 in
theorem some_blank (sb : Nat) (p : List UInt8) (i : Nat) (w : World) (hk : Blk w sb 179 (scn p i)) (hi : i ≤ p.length) (hp : p.length ≤ 1000000) :
    Calls Tryz.prog 184 #[.pointer (some ⟨sb, 0, none⟩), .func (.func 63) #[] #[]] w fun e w' => e = .returned (.int .i64 (twl blkN p i : Nat)) ∧ Blk w' sb 179 (scn p (i + twl blkN p i)) ∧ w.grownBy w' (some sb) := by
  have c1 : w.cell? ⟨sb, 1, none⟩ = some (.int .i64 (i : Nat)) := hk.cell 1
  have HK := Lib.hid hk
  have hle := twl_le (q := blkN) hi
  have HM := Lib.hid (fun j (h : j < twl blkN p i) => twl_in h)
  have HE := Lib.hid (fun (h : i + twl blkN p i < p.length) => twl_end h)
  obtain ⟨m, hm⟩ : ∃ m, twl blkN p i = m := ⟨_, rfl⟩
  rw [hm] at hle HM HE ⊢
  clear hk hm
  go_enter Tryz.func184, Tryz.ntmps184
  go_wp2_with fail
  clear c1
  go_loopw [] (fun wr => ∃ k : Nat, i ≤ k ∧ k ≤ i + m ∧ Hid (Blk wr sb 179 (scn p k)) ∧ Hid (w.grownBy wr (some sb))) (fun wr => p.length - atOf wr sb)
  case atStart => exact ⟨i, by omega, by omega, HK, Lib.hid (World.grownBy.refl _ _)⟩
  case round =>
    clear HK
    obtain ⟨k, hk1, hk2, HK, HG⟩ := hrel
    obtain ⟨c0, c1, f1, hlt⟩ := scn_cells HK.out
    by_cases hkp : k < p.length
    · have h1 : (k : Int) < ((bstr p).size : Int) := by rw [bstr_size]; omega
      have h2 : k < (bstr p).size := hkp
      have hb : ((bstr p)[k]'h2).toNat = (p[k]'hkp).toNat := rfl
      have hn : (p[k]'hkp).toNat < 256 := UInt8.toNat_lt _
      by_cases hkm : k < i + m
      · have HQ : Hid (blkN (p[k]'hkp).toNat = true) := Lib.hid (by
          obtain ⟨_, h⟩ := HM.out (k - i) (by omega)
          have e : i + (k - i) = k := by omega
          simpa only [e] using h)
        have HC := Lib.hid (fun w' => blank_any _ w' hn)
        rw [HQ.out] at HC
        generalize (p[k]'hkp).toNat = c at *
        go_wp2_with fail
        go_quiet ((go_at_call 63; exact Calls.quiet_of_same (HC.out _)))
        go_wp2_with fail
        go_roundw
        case rel =>
          exact ⟨k + 1, by omega, by omega, Lib.hid (scn_set HK.out _ _ (by omega)), Lib.hid ((grown_drewN HG.out _).trans (grown_setCell _ _ _ _))⟩
        case measure =>
          rw [atOf_blk HK.out, atOf_blk (scn_set (j := k + 1) HK.out _ _ (by omega))]
          omega
      · obtain rfl : k = i + m := by omega
        have HQ : Hid (blkN (p[i + m]'hkp).toNat = false) := Lib.hid (HE.out hkp)
        have HC := Lib.hid (fun w' => blank_any _ w' hn)
        rw [HQ.out] at HC
        generalize (p[i + m]'hkp).toNat = c at *
        have HX : Hid (i + m = i + m) := Lib.hid rfl
        generalize hkk : i + m = k at HK c1 h1 h2 hb hkp HQ HC
        have hw : IntKind.i64.wrap ((k : Int) - (i : Int)) = (m : Int) := by rw [IntWalk.i64_in _ (by omega)]; omega
        have HKK := Lib.hid hkk
        clear hkk
        go_wp2_with fail
        go_quiet ((go_at_call 63; exact Calls.quiet_of_same (HC.out _)))
        go_wp2_with fail
        go_ret
        rw [← HKK.out] at HK
        exact ⟨rfl, HK.out.drewN _, grown_drewN HG.out _⟩
    · obtain rfl : k = p.length := by omega
      have hw : IntKind.i64.wrap ((p.length : Int) - (i : Int)) = (m : Int) := by rw [IntWalk.i64_in _ (by omega)]; omega
      have h1 : ¬ p.length < (bstr p).size := by rw [bstr_size]; omega
      go_wp2_with fail
      go_quiet (fail)
      go_wp2_with fail
      go_ret
      rw [show p.length = i + m by omega] at HK
      exact ⟨rfl, HK.out.drewN _, grown_drewN HG.out _⟩
end Go.Proofs.YtnkdcmibafjplaaGreatDoor
namespace Go.Proofs.YtnkdcmibafjplaaGreatDoor
open Go.RowKit
set_option linter.unusedVariables false
set_option linter.unusedSimpArgs false

set_option maxRecDepth 100000 in
set_option maxHeartbeats 4000000 in
theorem name_tag (sb : Nat) (p : List UInt8) (i : Nat) (w : World) (hk : Blk w sb 179 (scn p i)) (hi : i < p.length) (hp : p.length ≤ 1000000) (hl : letB (p[i]'hi).toNat = true) :
    Calls Tryz.prog 182 #[.pointer (some ⟨sb, 0, none⟩), .func (.func 183) #[] #[]] w fun e w' => e = .returned (.string (bstr ((p.drop i).take (twl tagB p i)))) ∧ Blk w' sb 179 (scn p (i + twl tagB p i)) ∧ w.grownBy w' (some sb) := by
  have HK := Lib.hid hk
  obtain ⟨c0, c1, f1, hlt⟩ := scn_cells hk
  have h1 : (i : Int) < ((bstr p).size : Int) := by rw [bstr_size]; omega
  have h2 : i < (bstr p).size := hi
  have hb : ((bstr p)[i]'h2).toNat = (p[i]'hi).toNat := rfl
  have hn : (p[i]'hi).toNat < 256 := UInt8.toNat_lt _
  have HC := Lib.hid (fun w' => isLetterP_any _ w' hn)
  rw [hl] at HC
  have hle := twl_le (q := tagB) (Nat.le_of_lt hi)
  have ex : (bstr p).extract i (i + twl tagB p i) = bstr ((p.drop i).take (twl tagB p i)) := by rw [extract_bstr]; congr 3; omega
  clear hk hl
  generalize (p[i]'hi).toNat = c at *
  go_enter Tryz.func182, Tryz.ntmps182
  go_wp2_with fail
  go_quiet ((go_at_call 206; exact Calls.quiet_of_same (HC.out _)))
  go_wp2_with fail
  refine (some_tag sb p i _ (HK.out.drewN _) (by omega) hp).mono ?_
  rintro e w1 ⟨rfl, hk1, hg1⟩
  have HK1 := Lib.hid hk1
  have HG1 := Lib.hid ((grown_drewN (World.grownBy.refl w (some sb)) _).trans hg1)
  clear hk1 hg1 c0 c1 f1 hlt
  obtain ⟨c0, c1, f1, hlt⟩ := scn_cells HK1.out
  obtain ⟨k, hkk⟩ : ∃ k, i + twl tagB p i = k := ⟨_, rfl⟩
  rw [hkk] at hle ex c1
  have HKK := Lib.hid hkk
  have h3 : k ≤ (bstr p).size := hle
  have h4 : (k : Int) ≤ ((bstr p).size : Int) := by omega
  have h5 : i ≤ k := by omega
  have h6 : (i : Int) ≤ (k : Int) := by omega
  clear hkk
  go_wp2_with fail
  go_quiet (fail)
  go_wp2_with fail
  go_ret
  exact ⟨rfl, HK1.out.drewN _, grown_drewN HG1.out _⟩
theorem grown_setNew {w wr : World} {r : Option Nat} (h : w.grownBy wr r) {ab : Nat} (hab : w.heap.size ≤ ab) (i : Nat) (v : Value) : w.grownBy (wr.setCell ⟨ab, i, none⟩ v) r :=
  ⟨h.os, h.tape, h.output, by have := h.size; simpa [World.setCell] using this, fun k hk hn => (Below.heap_setCell _ _ _ k (by show k ≠ ab; omega)).trans (h.block k hk hn)⟩
theorem Blk.far {w : World} {g g' i : Nat} {t : TypeId} {cs : List Value} (h : Blk w g t cs) (hne : g ≠ g') (v : Value) : Blk (w.setCell ⟨g', i, none⟩ v) g t cs := (Below.heap_setCell _ _ _ g hne).trans h
theorem resultsS_row2 {P : Program} {fn : Func} {p u : Tmp} {ty : TypeId} (h : fn.results = #[.cell p ty, .tmp u]) (tmps : Array Value) (w : World) (g : Nat) (t : TypeId) (cs : List Value) (d : TypeDesc)
    (hp : tmps.getD p undef = .pointer (some ⟨g, 0, none⟩)) (hg : Blk w g t cs)
    (hu : P.underlying ty = some d) (hd : (match d with | .struct _ | .array _ _ => true | _ => false) = true) (hi : (P.info? ty).map (·.size) = some cs.toArray.size) :
    (results fn tmps).run P w = .ok (.tuple #[.agg cs.toArray, tmps.getD u undef]) w := by
  rw [results_cell_tmp h, hp]
  simp only [asAddr, Sem.run_pure, Result.andThen_ok, run_loadVar_row w g t ty cs.toArray (0, 0) d hg hu hd hi]
theorem attr_info : (Tryz.prog.info? 242).map (·.size) = some 5 := by kernel_rfl
theorem token_info : (Tryz.prog.info? 89).map (·.size) = some 5 := by kernel_rfl
theorem grown_of_below {w w' : World} (h : Below w.heap.size w w') (r : Option Nat) : w.grownBy w' r := ⟨h.os, h.tape, h.output, h.size, fun k hk _ => h.block k hk⟩
set_option maxRecDepth 100000 in
set_option maxHeartbeats 2000000 in
theorem comment_no (sb : Nat) (p : List UInt8) (i : Nat) (w : World) (hk : Blk w sb 179 (scn p i)) (hi : i ≤ p.length) (hp : p.length ≤ 1000000) (hn : preB [60, 33, 45, 45] (p.drop i) = false) :
    Calls Tryz.prog 149 #[.pointer (some ⟨sb, 0, none⟩)] w fun e w' => e = .returned (.bool false) ∧ ∃ n, w' = w.drewN n := by
  have HC := Lib.hid (has_any sb p [60, 33, 45, 45] i w hk hi hp (by decide))
  rw [hn] at HC
  clear hk hn
  go_enter Tryz.func149, Tryz.ntmps149
  go_wp2_with fail
  refine HC.out.mono ?_
  rintro e w1 ⟨rfl, n, rfl⟩
  go_wp2_with fail
  go_ret
  exact ⟨rfl, n, rfl⟩
set_option maxRecDepth 100000 in
set_option maxHeartbeats 2000000 in
theorem close_no (sb : Nat) (p : List UInt8) (i : Nat) (w : World) (hk : Blk w sb 179 (scn p i)) (hi : i ≤ p.length) (hp : p.length ≤ 1000000) (hn : preB [60, 47] (p.drop i) = false) :
    Calls Tryz.prog 150 #[.pointer (some ⟨sb, 0, none⟩)] w fun e w' => e = .returned (.tuple #[.string ⟨#[]⟩, .bool false]) ∧ ∃ n, w' = w.drewN n := by
  have HC := Lib.hid (has_any sb p [60, 47] i w hk hi hp (by decide))
  rw [hn] at HC
  clear hk hn
  go_enter Tryz.func150, Tryz.ntmps150
  go_wp2_with fail
  refine HC.out.mono ?_
  rintro e w1 ⟨rfl, n, rfl⟩
  go_wp2_with fail
  go_ret2
  exact ⟨rfl, n, rfl⟩
theorem drop_step {p : List UInt8} {i : Nat} {c : UInt8} {r : List UInt8} (h : p.drop i = c :: r) : ∃ hi : i < p.length, p[i]'hi = c ∧ p.drop (i + 1) = r := by
  have hi : i < p.length := by
    rcases Nat.lt_or_ge i p.length with q | q
    · exact q
    · rw [List.drop_eq_nil_of_le q] at h; cases h
  rw [List.drop_eq_getElem_cons hi] at h
  injection h with h1 h2
  exact ⟨hi, h1, h2⟩
set_option maxRecDepth 100000 in
set_option maxHeartbeats 4000000 in
theorem close_p (sb : Nat) (p : List UInt8) (i : Nat) (r : List UInt8) (w : World) (hk : Blk w sb 179 (scn p i)) (hp : p.length ≤ 1000000) (hd : p.drop i = 60 :: 47 :: 112 :: 62 :: r) :
    Calls Tryz.prog 150 #[.pointer (some ⟨sb, 0, none⟩)] w fun e w' => e = .returned (.tuple #[.string (bstr [112]), .bool true]) ∧ Blk w' sb 179 (scn p (i + 4)) ∧ w.grownBy w' (some sb) := by
  obtain ⟨l0, e0, d1⟩ := drop_step hd
  obtain ⟨l1, e1, d2⟩ := drop_step d1
  obtain ⟨l2, e2, d3⟩ := drop_step d2
  obtain ⟨l3, e3, d4⟩ := drop_step d3
  have HC := Lib.hid (has_any sb p [60, 47] i w hk (by omega) hp (by decide))
  rw [hd, show preB [60, 47] (60 :: 47 :: 112 :: 62 :: r) = true from by simp [preB]] at HC
  have HK := Lib.hid hk
  have t1 : twl tagB p (i + 1 + 1) = 1 := by unfold twl; rw [d2]; simp [tagB, letB]
  have t2 : twl blkN p (i + 1 + 1 + 1) = 0 := by unfold twl; rw [d3]; simp [blkN]
  have T1 := Lib.hid t1
  have T2 := Lib.hid t2
  have E2 := Lib.hid (show letB (p[i + 1 + 1]'l2).toNat = true by rw [e2]; decide)
  have D2 := Lib.hid d2
  have D3 := Lib.hid d3
  clear hk t1 t2 e0 e1 e2 e3 d1 d2 d3 d4 hd
  go_enter Tryz.func150, Tryz.ntmps150
  go_wp2_with fail
  refine HC.out.mono ?_
  rintro e w1 ⟨rfl, n, rfl⟩
  clear HC
  obtain ⟨c0, c1, f1, hlt⟩ := scn_cells (HK.out.drewN n)
  have hw : IntKind.i64.wrap ((i : Int) + 2) = (i : Int) + 2 := IntWalk.i64_in _ (by omega)
  go_wp2_with fail
  have HK1 := Lib.hid (scn_set (j := i + 1 + 1) HK.out n ((i : Int) + 2) (by omega))
  have HG1 := Lib.hid ((grown_drewN (World.grownBy.refl w (some sb)) n).trans (grown_setCell (w.drewN n) sb 1 (.int .i64 ((i : Int) + 2))))
  generalize (w.drewN n).setCell ⟨sb, 1, none⟩ (.int .i64 ((i : Int) + 2)) = w1 at *
  clear c0 c1 f1 hlt hw
  refine (name_tag sb p (i + 1 + 1) w1 HK1.out l2 hp E2.out).mono ?_
  rintro e w2 ⟨rfl, hk2, hg2⟩
  rw [T1.out, D2.out] at *
  have HK2 := Lib.hid hk2
  have HG2 := Lib.hid (HG1.out.trans hg2)
  clear hk2 hg2 HK1 HG1 HK
  go_wp2_with fail
  refine (some_blank sb p (i + 1 + 1 + 1) w2 HK2.out (by omega) hp).mono ?_
  rintro e w3 ⟨rfl, hk3, hg3⟩
  rw [T2.out] at *
  have HK3 := Lib.hid hk3
  have HG3 := Lib.hid (HG2.out.trans hg3)
  clear hk3 hg3 HK2 HG2
  have b0 : (bstr [112]).toList.isEmpty = false := by rw [bstr_toList]; rfl
  have HH := Lib.hid (has_any sb p [62] (i + 1 + 1 + 1) w3 HK3.out (by omega) hp (by decide))
  rw [D3.out, show preB [62] (62 :: r) = true from by simp [preB]] at HH
  go_wp2_with fail
  refine HH.out.mono ?_
  rintro e w4 ⟨rfl, n4, rfl⟩
  clear HH
  obtain ⟨c0, c1, f1, hlt⟩ := scn_cells (HK3.out.drewN n4)
  have hw : IntKind.i64.wrap (((i + 1 + 1 + 1 + 0 : Nat) : Int) + 1) = ((i + 4 : Nat) : Int) := by rw [IntWalk.i64_in _ (by omega)]; omega
  have HK4 := Lib.hid (scn_set (j := i + 4) HK3.out n4 ((i + 4 : Nat) : Int) rfl)
  have HG4 := Lib.hid ((grown_drewN HG3.out n4).trans (grown_setCell (w3.drewN n4) sb 1 (.int .i64 ((i + 4 : Nat) : Int))))
  generalize hk9 : i + 1 + 1 + 1 + 0 = k9 at *
  generalize hi4 : i + 4 = i4 at *
  have HI4 := Lib.hid hi4
  clear hk9 hi4
  go_wp2_with fail
  generalize (w3.drewN n4).setCell ⟨sb, 1, none⟩ (.int .i64 (i4 : Int)) = w4 at *
  clear c0 c1 f1 hlt hw
  refine (small_any [112] w4 (by decide) (by decide)).mono ?_
  rintro e w5 ⟨rfl, hb5⟩
  have HG5 := Lib.hid (HG4.out.trans (grown_of_below hb5 (some sb)))
  have HK5 := Lib.hid (HK4.out.same (same_below hb5) HK4.out.lt)
  clear hb5
  go_wp2_with fail
  go_ret2
  rw [← HI4.out] at HK5
  exact ⟨rfl, HK5.out, HG5.out⟩
set_option maxRecDepth 100000 in
set_option maxHeartbeats 4000000 in
theorem attribute_no (sb : Nat) (p : List UInt8) (i : Nat) (w : World) (hk : Blk w sb 179 (scn p i)) (hi : i ≤ p.length) (hp : p.length ≤ 1000000) (hn : twl blkN p i = 0) :
    Calls Tryz.prog 185 #[.pointer (some ⟨sb, 0, none⟩)] w fun e w' => e = .returned (.tuple #[.agg #[.string ⟨#[]⟩, .string ⟨#[]⟩, .int .i64 0, .int .i64 0, .bool false], .bool false]) ∧ Blk w' sb 179 (scn p i) ∧ w.grownBy w' (some sb) := by
  have HK := Lib.hid (hk.same (same_below ((Below.refl w.heap.size w).alloc (Nat.le_refl _) (.cells #[.string ⟨#[]⟩, .string ⟨#[]⟩, .int .i64 0, .int .i64 0, .bool false] 242))) hk.lt)
  have HA := Lib.hid (Blk.new w 242 [.string ⟨#[]⟩, .string ⟨#[]⟩, .int .i64 0, .int .i64 0, .bool false])
  have HG := Lib.hid (World.grownBy_alloc w (.cells #[.string ⟨#[]⟩, .string ⟨#[]⟩, .int .i64 0, .int .i64 0, .bool false] 242) (some sb))
  have HN := Lib.hid hn
  have HL := Lib.hid (show sb ≠ w.heap.size from Nat.ne_of_lt hk.lt)
  have HS := Lib.hid (Nat.le_refl w.heap.size)
  clear hk hn
  go_enter Tryz.func185, Tryz.ntmps185
  go_wp2_with fail
  generalize w.alloc (.cells #[.string ⟨#[]⟩, .string ⟨#[]⟩, .int .i64 0, .int .i64 0, .bool false] 242) = w1 at *
  refine (some_blank sb p i w1 HK.out hi hp).mono ?_
  rintro e w2 ⟨rfl, hk2, hg2⟩
  rw [HN.out] at *
  have HK2 := Lib.hid hk2
  have HG2 := Lib.hid (HG.out.trans hg2)
  have HA2 := Lib.hid (HA.out.same (grown_same hg2) ⟨HA.out.lt, fun e => HL.out (Option.some.inj e).symm⟩)
  clear hk2 hg2
  obtain ⟨ab, hab⟩ : ∃ ab, w.heap.size = ab := ⟨_, rfl⟩
  rw [hab] at HL HA2 ⊢
  have HAB := Lib.hid (Nat.le_of_eq hab)
  clear hab HS HA HK HG
  have r0 := HA2.out.cell 0
  have r1 := HA2.out.cell 1
  have r2 := HA2.out.cell 2
  have r3 := HA2.out.cell 3
  have r4 := HA2.out.cell 4
  have g0 := HA2.out.frozen 0
  have g1 := HA2.out.frozen 1
  have g2 := HA2.out.frozen 2
  have g3 := HA2.out.frozen 3
  have g4 := HA2.out.frozen 4
  go_wp2_with fail
  refine bodyPost_ret (resultsS_row2 rfl _ _ ab 242 [.string ⟨#[]⟩, .string ⟨#[]⟩, .int .i64 0, .int .i64 0, .bool false] _ rfl (((((HA2.out.set_ 0 (.string ⟨#[]⟩)).set_ 1 (.string ⟨#[]⟩)).set_ 2 (.int .i64 0)).set_ 3 (.int .i64 0)).set_ 4 (.bool false)) Tryz.underlying242 rfl attr_info) rfl ?_
  exact ⟨rfl, ((((HK2.out.far HL.out _).far HL.out _).far HL.out _).far HL.out _).far HL.out _, grown_setNew (grown_setNew (grown_setNew (grown_setNew (grown_setNew HG2.out HAB.out _ _) HAB.out _ _) HAB.out _ _) HAB.out _ _) HAB.out _ _⟩
end Go.Proofs.YtnkdcmibafjplaaGreatDoor
namespace Go.Proofs.YtnkdcmibafjplaaGreatDoor
open Go.RowKit
set_option linter.unusedVariables false
set_option linter.unusedSimpArgs false

set_option maxRecDepth 100000 in
set_option maxHeartbeats 4000000 in
theorem open_p (sb : Nat) (p : List UInt8) (i : Nat) (r : List UInt8) (w : World) (hk : Blk w sb 179 (scn p i)) (hp : p.length ≤ 1000000) (hd : p.drop i = 60 :: 112 :: 62 :: r) :
    Calls Tryz.prog 151 #[.pointer (some ⟨sb, 0, none⟩)] w fun e w' => e = .returned (.tuple #[.string (bstr [112]), .slice none 0 0, .bool true]) ∧ Blk w' sb 179 (scn p (i + 3)) ∧ w.grownBy w' (some sb) := by
  obtain ⟨l1, e1, d2⟩ := drop_step hd
  obtain ⟨l2, e2, d3⟩ := drop_step d2
  obtain ⟨l3, e3, d4⟩ := drop_step d3
  have HC := Lib.hid (has_any sb p [60] i w hk (by omega) hp (by decide))
  rw [hd, show preB [60] (60 :: 112 :: 62 :: r) = true from by simp [preB]] at HC
  have HK := Lib.hid hk
  have t1 : twl tagB p (i + 1) = 1 := by unfold twl; rw [d2]; simp [tagB, letB]
  have t2 : twl blkN p (i + 2) = 0 := by unfold twl; rw [show i + 2 = i + 1 + 1 from rfl, d3]; simp [blkN]
  have E2 := Lib.hid (show letB (p[i + 1]'l2).toNat = true by rw [e2]; decide)
  have D2 := Lib.hid d2
  have d3' : p.drop (i + 2) = 62 :: r := d3
  have D3 := Lib.hid d3'
  have T1 := Lib.hid t1
  have T2 := Lib.hid t2
  have l3' : i + 2 < p.length := l3
  clear hk t1 t2 e1 e2 e3 d2 d3 d3' d4 hd l3
  obtain ⟨j, hj⟩ : ∃ j, i + 1 = j := ⟨_, rfl⟩
  obtain ⟨k, hkk⟩ : ∃ k, i + 2 = k := ⟨_, rfl⟩
  obtain ⟨m, hm⟩ : ∃ m, i + 3 = m := ⟨_, rfl⟩
  simp only [hj] at T1 E2 D2 l2
  simp only [hkk] at T2 D3 l3'
  rw [hm]
  have E3 : Hid (letB (p[j]'l2).toNat = true) := E2
  clear E2
  have HJ := Lib.hid hj
  have HKK := Lib.hid hkk
  have HM := Lib.hid hm
  have hw1 : IntKind.i64.wrap ((i : Int) + 1) = (j : Int) := by rw [IntWalk.i64_in _ (by omega)]; omega
  have hw3 : IntKind.i64.wrap ((k : Int) + 1) = (m : Int) := by rw [IntWalk.i64_in _ (by omega)]; omega
  have hjk : j + 1 = k := by omega
  have HJK := Lib.hid hjk
  clear hj hkk hm hjk
  go_enter Tryz.func151, Tryz.ntmps151
  go_wp2_with fail
  refine HC.out.mono ?_
  rintro e w1 ⟨rfl, n, rfl⟩
  clear HC
  obtain ⟨c0, c1, f1, hlt⟩ := scn_cells (HK.out.drewN n)
  have HK1 := Lib.hid (scn_set (j := j) HK.out n (j : Int) rfl)
  have HG1 := Lib.hid ((grown_drewN (World.grownBy.refl w (some sb)) n).trans (grown_setCell (w.drewN n) sb 1 (.int .i64 (j : Int))))
  go_wp2_with fail
  generalize (w.drewN n).setCell ⟨sb, 1, none⟩ (.int .i64 (j : Int)) = w1 at *
  clear c0 c1 f1 hlt hw1
  refine (name_tag sb p j w1 HK1.out l2 hp E3.out).mono ?_
  rintro e w2 ⟨rfl, hk2, hg2⟩
  have hk2 : Blk w2 sb 179 (scn p k) := by rw [← HJK.out]; rw [T1.out] at hk2; exact hk2
  rw [T1.out, D2.out]
  have HK2 := Lib.hid hk2
  have HG2 := Lib.hid (HG1.out.trans hg2)
  clear hk2 hg2 HK1 HG1 HK
  have b0 : (bstr [112]).toList.isEmpty = false := by rw [bstr_toList]; rfl
  rw [show List.take 1 (112 :: 62 :: r) = [112] from rfl]
  go_wp2_with fail
  clear b0
  go_loopw [6] (fun vo wr => vo = .slice none 0 0 ∧ wr = w2) (fun _ _ => 0)
  case atStart => exact ⟨rfl, rfl⟩
  case round =>
    obtain ⟨rfl, rfl⟩ := hrel
    obtain ⟨c0, c1, f1, hlt⟩ := scn_cells HK2.out
    go_wp2_with fail
    clear c0 c1 f1 hlt
    refine (attribute_no sb p k wr HK2.out (by omega) hp T2.out).mono ?_
    rintro e w3 ⟨rfl, hk3, hg3⟩
    have hal := (Below.refl w3.heap.size w3).alloc (Nat.le_refl _) (.cells #[.string ⟨#[]⟩, .string ⟨#[]⟩, .int .i64 0, .int .i64 0, .bool false] 242)
    have HK3 := Lib.hid (hk3.same (same_below hal) hk3.lt)
    have HG3 := Lib.hid ((HG2.out.trans hg3).trans (grown_of_below hal (some sb)))
    clear hk3 hg3 hal
    obtain ⟨c0, c1, f1, hlt⟩ := scn_cells HK3.out
    have HK4 := Lib.hid (scn_set0 (j := k) HK3.out (k : Int) rfl)
    have HG4 := Lib.hid (HG3.out.trans (grown_setCell _ sb 1 (.int .i64 (k : Int))))
    clear HK2 HG2
    go_wp2_with fail
    generalize ((w3.alloc (.cells #[.string ⟨#[]⟩, .string ⟨#[]⟩, .int .i64 0, .int .i64 0, .bool false] 242)).setCell ⟨sb, 1, none⟩ (.int .i64 (k : Int))) = w4 at *
    clear c0 c1 f1 hlt HK3 HG3 hk2
    refine (some_blank sb p k w4 HK4.out (by omega) hp).mono ?_
    rintro e w5 ⟨rfl, hk5, hg5⟩
    have hk5 : Blk w5 sb 179 (scn p k) := by rw [T2.out] at hk5; exact hk5
    rw [T2.out]
    have HK5 := Lib.hid hk5
    have HG5 := Lib.hid (HG4.out.trans hg5)
    have HH := Lib.hid (has_any sb p [47] k w5 hk5 (by omega) hp (by decide))
    rw [D3.out, show preB [47] (62 :: r) = false from by simp [preB]] at HH
    clear hk5 hg5 HK4 HG4
    go_wp2_with fail
    refine HH.out.mono ?_
    rintro e w6 ⟨rfl, n6, rfl⟩
    have HH2 := Lib.hid (has_any sb p [62] k (w5.drewN n6) (HK5.out.drewN n6) (by omega) hp (by decide))
    rw [D3.out, show preB [62] (62 :: r) = true from by simp [preB]] at HH2
    clear HH
    go_wp2_with fail
    refine HH2.out.mono ?_
    rintro e w7 ⟨rfl, n7, rfl⟩
    clear HH2
    have HK7 := Lib.hid ((HK5.out.drewN n6).drewN n7)
    have HG7 := Lib.hid (grown_drewN (grown_drewN HG5.out n6) n7)
    generalize (w5.drewN n6).drewN n7 = w7 at *
    clear HK5 HG5
    obtain ⟨c0, c1, f1, hlt⟩ := scn_cells HK7.out
    have HK8 := Lib.hid (scn_set0 (j := m) HK7.out (m : Int) rfl)
    have HG8 := Lib.hid (HG7.out.trans (grown_setCell w7 sb 1 (.int .i64 (m : Int))))
    go_wp2_with fail
    generalize w7.setCell ⟨sb, 1, none⟩ (.int .i64 (m : Int)) = w8 at *
    clear c0 c1 f1 hlt HK7 HG7
    refine (small_any [112] w8 (by decide) (by decide)).mono ?_
    rintro e w9 ⟨rfl, hb9⟩
    have HG9 := Lib.hid (HG8.out.trans (grown_of_below hb9 (some sb)))
    have HK9 := Lib.hid (HK8.out.same (same_below hb9) HK8.out.lt)
    clear hb9
    go_wp2_with fail
    go_ret3
    exact ⟨rfl, HK9.out, HG9.out⟩
/-- The cells of a token without attributes. -/
def tokC (kind a b : Nat) (nm : List UInt8) : List Value := [.int .i64 (kind : Nat), .int .i64 (a : Nat), .int .i64 (b : Nat), .string (bstr nm), .slice none 0 0]
theorem tok_set {w : World} {tb : Nat} {cs : List Value} (h : Blk w tb 89 cs) (hl : cs.length = 5) (x0 x1 x2 x3 x4 : Value) : Blk (((((w.setCell ⟨tb, 0, none⟩ x0).setCell ⟨tb, 1, none⟩ x1).setCell ⟨tb, 2, none⟩ x2).setCell ⟨tb, 3, none⟩ x3).setCell ⟨tb, 4, none⟩ x4) tb 89 [x0, x1, x2, x3, x4] := by
  match cs, hl with
  | [_, _, _, _, _], _ => exact ((((h.set_ 0 x0).set_ 1 x1).set_ 2 x2).set_ 3 x3).set_ 4 x4
theorem far5 {w : World} {g tb : Nat} {t : TypeId} {cs : List Value} (h : Blk w g t cs) (hne : g ≠ tb) (x0 x1 x2 x3 x4 : Value) : Blk (((((w.setCell ⟨tb, 0, none⟩ x0).setCell ⟨tb, 1, none⟩ x1).setCell ⟨tb, 2, none⟩ x2).setCell ⟨tb, 3, none⟩ x3).setCell ⟨tb, 4, none⟩ x4) g t cs :=
  ((((h.far hne _).far hne _).far hne _).far hne _).far hne _
theorem grown5 {w wr : World} {r : Option Nat} (h : w.grownBy wr r) {tb : Nat} (hab : w.heap.size ≤ tb) (x0 x1 x2 x3 x4 : Value) : w.grownBy (((((wr.setCell ⟨tb, 0, none⟩ x0).setCell ⟨tb, 1, none⟩ x1).setCell ⟨tb, 2, none⟩ x2).setCell ⟨tb, 3, none⟩ x3).setCell ⟨tb, 4, none⟩ x4) r :=
  grown_setNew (grown_setNew (grown_setNew (grown_setNew (grown_setNew h hab _ _) hab _ _) hab _ _) hab _ _) hab _ _
set_option maxRecDepth 100000 in
set_option maxHeartbeats 4000000 in
theorem token_open (sb : Nat) (p : List UInt8) (i : Nat) (r : List UInt8) (w : World) (hk : Blk w sb 179 (scn p i)) (hp : p.length ≤ 1000000) (hd : p.drop i = 60 :: 112 :: 62 :: r) :
    Calls Tryz.prog 97 #[.pointer (some ⟨sb, 0, none⟩)] w fun e w' => e = .returned (.tuple #[.agg (tokC 2 i (i + 3) [112]).toArray, .bool true]) ∧ Blk w' sb 179 (scn p (i + 3)) ∧ w.grownBy w' (some sb) := by
  have hi : i < p.length := (drop_step hd).1
  have hal := (Below.refl w.heap.size w).alloc (Nat.le_refl _) (.cells #[.int .i64 0, .int .i64 0, .int .i64 0, .string ⟨#[]⟩, .slice none 0 0] 89)
  have HK := Lib.hid (hk.same (same_below hal) hk.lt)
  have HT := Lib.hid (Blk.new w 89 [.int .i64 0, .int .i64 0, .int .i64 0, .string ⟨#[]⟩, .slice none 0 0])
  have HG := Lib.hid (grown_of_below hal (some sb))
  have HL := Lib.hid (show sb ≠ w.heap.size from Nat.ne_of_lt hk.lt)
  have HD := Lib.hid hd
  have hle : i + 3 ≤ p.length := by
    have := congrArg List.length hd
    rw [List.length_drop] at this
    simp only [List.length_cons] at this
    omega
  clear hk hal hd
  go_enter Tryz.func97, Tryz.ntmps97
  obtain ⟨tb, htb⟩ : ∃ tb, w.heap.size = tb := ⟨_, rfl⟩
  obtain ⟨w1, hw1⟩ : ∃ w1, w.alloc (.cells #[.int .i64 0, .int .i64 0, .int .i64 0, .string ⟨#[]⟩, .slice none 0 0] 89) = w1 := ⟨_, rfl⟩
  rw [hw1] at HK HT HG
  rw [htb] at HT HL
  have HAB := Lib.hid (Nat.le_of_eq htb)
  obtain ⟨c0, c1, f1, hlt⟩ := scn_cells HK.out
  go_wp2_with fail
  clear hw1 htb c0 c1 f1 hlt
  refine (comment_no sb p i w1 HK.out (by omega) hp (by rw [HD.out]; simp [preB])).mono ?_
  rintro e w2 ⟨rfl, n, rfl⟩
  have HK2 := Lib.hid (HK.out.drewN n)
  have HT2 := Lib.hid (HT.out.drewN n)
  have HG2 := Lib.hid (grown_drewN HG.out n)
  generalize w1.drewN n = w2 at *
  clear HK HT HG
  obtain ⟨c0, c1, f1, hlt⟩ := scn_cells HK2.out
  have HK3 := Lib.hid (scn_set0 (j := i) HK2.out (i : Int) rfl)
  have HT3 := Lib.hid (HT2.out.far (i := 1) (fun e => HL.out e.symm) (.int .i64 (i : Int)))
  have HG3 := Lib.hid (HG2.out.trans (grown_setCell w2 sb 1 (.int .i64 (i : Int))))
  go_wp2_with fail
  generalize w2.setCell ⟨sb, 1, none⟩ (.int .i64 (i : Int)) = w3 at *
  clear c0 c1 f1 hlt HK2 HT2 HG2
  refine (close_no sb p i w3 HK3.out (by omega) hp (by rw [HD.out]; simp [preB])).mono ?_
  rintro e w4 ⟨rfl, n4, rfl⟩
  have HK4 := Lib.hid (HK3.out.drewN n4)
  have HT4 := Lib.hid (HT3.out.drewN n4)
  have HG4 := Lib.hid (grown_drewN HG3.out n4)
  generalize w3.drewN n4 = w4 at *
  clear HK3 HT3 HG3
  obtain ⟨c0, c1, f1, hlt⟩ := scn_cells HK4.out
  have HK5 := Lib.hid (scn_set0 (j := i) HK4.out (i : Int) rfl)
  have HT5 := Lib.hid (HT4.out.far (i := 1) (fun e => HL.out e.symm) (.int .i64 (i : Int)))
  have HG5 := Lib.hid (HG4.out.trans (grown_setCell w4 sb 1 (.int .i64 (i : Int))))
  go_wp2_with fail
  generalize w4.setCell ⟨sb, 1, none⟩ (.int .i64 (i : Int)) = w5 at *
  clear c0 c1 f1 hlt HK4 HT4 HG4
  refine (open_p sb p i r w5 HK5.out hp HD.out).mono ?_
  rintro e w6 ⟨rfl, hk6, hg6⟩
  have HK6 := Lib.hid hk6
  have HT6 := Lib.hid (HT5.out.same (grown_same hg6) ⟨HT5.out.lt, fun e => HL.out (Option.some.inj e).symm⟩)
  have HG6 := Lib.hid (HG5.out.trans hg6)
  clear hk6 hg6 HK5 HT5 HG5
  obtain ⟨c0, c1, f1, hlt⟩ := scn_cells HK6.out
  obtain ⟨m, hm⟩ : ∃ m, i + 3 = m := ⟨_, rfl⟩
  rw [hm] at HK6 c1
  have HM := Lib.hid hm
  clear hm
  have r0 : w6.cell? ⟨tb, 0, none⟩ = some (.int .i64 0) := HT6.out.cell 0
  have r1 : w6.cell? ⟨tb, 1, none⟩ = some (.int .i64 0) := HT6.out.cell 1
  have r2 : w6.cell? ⟨tb, 2, none⟩ = some (.int .i64 0) := HT6.out.cell 2
  have r3 : w6.cell? ⟨tb, 3, none⟩ = some (.string ⟨#[]⟩) := HT6.out.cell 3
  have r4 : w6.cell? ⟨tb, 4, none⟩ = some (.slice none 0 0) := HT6.out.cell 4
  have g0 := HT6.out.frozen 0
  have g1 := HT6.out.frozen 1
  have g2 := HT6.out.frozen 2
  have g3 := HT6.out.frozen 3
  have g4 := HT6.out.frozen 4
  go_wp2_with fail
  refine bodyPost_ret (resultsS_row2 rfl _ _ tb 89 (tokC 2 i m [112]) _ rfl (tok_set HT6.out rfl _ _ _ _ _) Tryz.underlying89 rfl token_info) rfl ?_
  rw [HM.out]
  exact ⟨rfl, far5 HK6.out HL.out _ _ _ _ _, grown5 HG6.out HAB.out _ _ _ _ _⟩
set_option maxRecDepth 100000 in
set_option maxHeartbeats 4000000 in
theorem token_close (sb : Nat) (p : List UInt8) (i : Nat) (r : List UInt8) (w : World) (hk : Blk w sb 179 (scn p i)) (hp : p.length ≤ 1000000) (hd : p.drop i = 60 :: 47 :: 112 :: 62 :: r) :
    Calls Tryz.prog 97 #[.pointer (some ⟨sb, 0, none⟩)] w fun e w' => e = .returned (.tuple #[.agg (tokC 3 i (i + 4) [112]).toArray, .bool true]) ∧ Blk w' sb 179 (scn p (i + 4)) ∧ w.grownBy w' (some sb) := by
  have hi : i < p.length := (drop_step hd).1
  have hal := (Below.refl w.heap.size w).alloc (Nat.le_refl _) (.cells #[.int .i64 0, .int .i64 0, .int .i64 0, .string ⟨#[]⟩, .slice none 0 0] 89)
  have HK := Lib.hid (hk.same (same_below hal) hk.lt)
  have HT := Lib.hid (Blk.new w 89 [.int .i64 0, .int .i64 0, .int .i64 0, .string ⟨#[]⟩, .slice none 0 0])
  have HG := Lib.hid (grown_of_below hal (some sb))
  have HL := Lib.hid (show sb ≠ w.heap.size from Nat.ne_of_lt hk.lt)
  have HD := Lib.hid hd
  have hle : i + 4 ≤ p.length := by
    have := congrArg List.length hd
    rw [List.length_drop] at this
    simp only [List.length_cons] at this
    omega
  clear hk hal hd
  go_enter Tryz.func97, Tryz.ntmps97
  obtain ⟨tb, htb⟩ : ∃ tb, w.heap.size = tb := ⟨_, rfl⟩
  obtain ⟨w1, hw1⟩ : ∃ w1, w.alloc (.cells #[.int .i64 0, .int .i64 0, .int .i64 0, .string ⟨#[]⟩, .slice none 0 0] 89) = w1 := ⟨_, rfl⟩
  rw [hw1] at HK HT HG
  rw [htb] at HT HL
  have HAB := Lib.hid (Nat.le_of_eq htb)
  obtain ⟨c0, c1, f1, hlt⟩ := scn_cells HK.out
  go_wp2_with fail
  clear hw1 htb c0 c1 f1 hlt
  refine (comment_no sb p i w1 HK.out (by omega) hp (by rw [HD.out]; simp [preB])).mono ?_
  rintro e w2 ⟨rfl, n, rfl⟩
  have HK2 := Lib.hid (HK.out.drewN n)
  have HT2 := Lib.hid (HT.out.drewN n)
  have HG2 := Lib.hid (grown_drewN HG.out n)
  generalize w1.drewN n = w2 at *
  clear HK HT HG
  obtain ⟨c0, c1, f1, hlt⟩ := scn_cells HK2.out
  have HK3 := Lib.hid (scn_set0 (j := i) HK2.out (i : Int) rfl)
  have HT3 := Lib.hid (HT2.out.far (i := 1) (fun e => HL.out e.symm) (.int .i64 (i : Int)))
  have HG3 := Lib.hid (HG2.out.trans (grown_setCell w2 sb 1 (.int .i64 (i : Int))))
  go_wp2_with fail
  generalize w2.setCell ⟨sb, 1, none⟩ (.int .i64 (i : Int)) = w3 at *
  clear c0 c1 f1 hlt HK2 HT2 HG2
  refine (close_p sb p i r w3 HK3.out hp HD.out).mono ?_
  rintro e w6 ⟨rfl, hk6, hg6⟩
  have HK6 := Lib.hid hk6
  have HT6 := Lib.hid (HT3.out.same (grown_same hg6) ⟨HT3.out.lt, fun e => HL.out (Option.some.inj e).symm⟩)
  have HG6 := Lib.hid (HG3.out.trans hg6)
  clear hk6 hg6 HK3 HT3 HG3
  obtain ⟨c0, c1, f1, hlt⟩ := scn_cells HK6.out
  obtain ⟨m, hm⟩ : ∃ m, i + 4 = m := ⟨_, rfl⟩
  rw [hm] at HK6 c1
  have HM := Lib.hid hm
  clear hm
  have r0 : w6.cell? ⟨tb, 0, none⟩ = some (.int .i64 0) := HT6.out.cell 0
  have r1 : w6.cell? ⟨tb, 1, none⟩ = some (.int .i64 0) := HT6.out.cell 1
  have r2 : w6.cell? ⟨tb, 2, none⟩ = some (.int .i64 0) := HT6.out.cell 2
  have r3 : w6.cell? ⟨tb, 3, none⟩ = some (.string ⟨#[]⟩) := HT6.out.cell 3
  have r4 : w6.cell? ⟨tb, 4, none⟩ = some (.slice none 0 0) := HT6.out.cell 4
  have g0 := HT6.out.frozen 0
  have g1 := HT6.out.frozen 1
  have g2 := HT6.out.frozen 2
  have g3 := HT6.out.frozen 3
  have g4 := HT6.out.frozen 4
  go_wp2_with fail
  refine bodyPost_ret (resultsS_row2 rfl _ _ tb 89 (tokC 3 i m [112]) _ rfl (tok_set HT6.out rfl _ _ _ _ _) Tryz.underlying89 rfl token_info) rfl ?_
  rw [HM.out]
  exact ⟨rfl, far5 HK6.out HL.out _ _ _ _ _, grown5 HG6.out HAB.out _ _ _ _ _⟩
end Go.Proofs.YtnkdcmibafjplaaGreatDoor
namespace Go.Proofs.YtnkdcmibafjplaaGreatDoor
open Go.RowKit
set_option linter.unusedVariables false
set_option linter.unusedSimpArgs false

theorem tok_info : (Tryz.prog.info? 89).map (fun i => (i.zero, i.size, i.bytes)) = some (some (.agg #[.int .i64 0, .int .i64 0, .int .i64 0, .string ⟨#[]⟩, .slice none 0 0]), 5, 64) := by kernel_rfl
theorem own_cellsT {w : World} {B : Nat} {e : TypeId} {size n : Nat} {v : Value} {xs : List Value} (h : w.ownsRow B e size v n xs) {g : Nat} (hg : v.ownBlock = some g) : ∃ cur, w.heap[g]? = some (.cells cur e (0, 0)) := by
  rcases h.2 with ⟨hv, _⟩ | ⟨g', cap, cur, hv, _, hh, _⟩
  · rw [hv] at hg; cases hg
  · rw [hv] at hg
    injection hg with hg
    subst hg
    exact ⟨cur, hh⟩
theorem blk_notOwn {w : World} {g B n size : Nat} {t e : TypeId} {cs xs : List Value} {v : Value} (hk : Blk w g t cs) (hr : w.ownsRow B e size v n xs) (hne : t ≠ e) : v.ownBlock ≠ some g := by
  intro e1
  obtain ⟨cur, hc⟩ := own_cellsT hr e1
  have := (show w.heap[g]? = _ from hk).symm.trans hc
  simp only [Option.some.injEq, Obj.cells.injEq] at this
  exact hne this.2.1
theorem own_belowT {w w' : World} {B : Nat} {e : TypeId} {size n : Nat} {v : Value} {xs : List Value} (h : w.ownsRow B e size v n xs) (hb : Below w.heap.size w w') : w'.ownsRow B e size v n xs :=
  h.kept (row := none) ⟨hb.os, hb.tape, hb.output, hb.size, fun k hk _ => hb.block k hk⟩ (by cases hg : v.ownBlock <;> simp)
/-- What the loop of 'tokens' keeps: the scanner, the variable 'out', its row. -/
structure TkSt (w0 : World) (sb ob : Nat) (p : List UInt8) (i : Nat) (v : Value) (L : List (List Value)) (w : World) : Prop where
  sc : Blk w sb 179 (scn p i)
  ov : Blk w ob 82 [v]
  ro : w.ownsRow w0.heap.size 89 5 v L.length L.flatten
  bl : Below w0.heap.size w0 w
  s1 : w0.heap.size ≤ sb
  s2 : w0.heap.size ≤ ob
section
variable {w0 w w' : World} {sb ob i j : Nat} {p : List UInt8} {v : Value} {L : List (List Value)}
theorem TkSt.below (h : TkSt w0 sb ob p i v L w) (hb : Below w.heap.size w w') : TkSt w0 sb ob p i v L w' :=
  ⟨h.sc.same (same_below hb) h.sc.lt, h.ov.same (same_below hb) h.ov.lt, own_belowT h.ro hb, ext_trans h.bl hb, h.s1, h.s2⟩
theorem TkSt.ne (h : TkSt w0 sb ob p i v L w) : sb ≠ ob := h.sc.ne h.ov (by decide)
theorem TkSt.scan (h : TkSt w0 sb ob p i v L w) (hs : Blk w' sb 179 (scn p j)) (hg : w.grownBy w' (some sb)) : TkSt w0 sb ob p j v L w' :=
  ⟨hs, h.ov.same (grown_same hg) ⟨h.ov.lt, fun e => h.ne (Option.some.inj e).symm⟩, h.ro.kept hg (.inr (blk_notOwn h.sc h.ro (by decide))), h.bl.grown hg h.bl.size (fun k hk => by injection hk with hk; rw [← hk]; exact h.s1), h.s1, h.s2⟩
theorem TkSt.ov_grown (h : TkSt w0 sb ob p i v L w) (hg : w.grownBy w' v.ownBlock) : Blk w' ob 82 [v] := h.ov.same (grown_same hg) ⟨h.ov.lt, fun e => blk_notOwn h.ov h.ro (by decide) e.symm⟩
theorem TkSt.push (h : TkSt w0 sb ob p i v L w) {u : Value} {us : List Value} (ho : w'.ownsRow w0.heap.size 89 5 u (L.length + 1) (L.flatten ++ us)) (hg : w.grownBy w' v.ownBlock) (hb : ∀ w1, Below w0.heap.size w1 w → Below w0.heap.size w1 w') : TkSt w0 sb ob p i u (L ++ [us]) (w'.setCell ⟨ob, 0, none⟩ u) := by
  have h1 : Blk w' sb 179 (scn p i) := h.sc.same (grown_same hg) ⟨h.sc.lt, fun e => blk_notOwn h.sc h.ro (by decide) e.symm⟩
  have h2 : Blk w' ob 82 [v] := h.ov.same (grown_same hg) ⟨h.ov.lt, fun e => blk_notOwn h.ov h.ro (by decide) e.symm⟩
  refine ⟨h1.far h.ne u, h2.set_ 0 u, ?_, (hb w0 h.bl).trans ?_, h.s1, h.s2⟩
  · have e1 : (L ++ [us]).flatten = L.flatten ++ us := by simp
    have e2 : (L ++ [us]).length = L.length + 1 := by simp
    rw [e1, e2]
    exact ho.kept (grown_setCell w' ob 0 u) (.inr (blk_notOwn h2 ho (by decide)))
  · exact (Below.refl _ _).setCell (p := ⟨ob, 0, none⟩) h.s2 u
end
set_option maxRecDepth 100000 in
set_option maxHeartbeats 4000000 in
/-- The closure 'text'. -/
theorem text_any (sb ob : Nat) (p : List UInt8) (i : Nat) (v : Value) (L : List (List Value)) (a b : Nat) (w0 w : World) (h : TkSt w0 sb ob p i v L w) (hL : L.length ≤ 100) (ha : a ≤ 1000000) (hb : b ≤ 1000000) :
    Calls Tryz.prog 96 #[.int .i64 (a : Nat), .int .i64 (b : Nat), .pointer (some ⟨ob, 0, none⟩)] w fun e w' => e = .returned (.tuple #[]) ∧ ∃ u, TkSt w0 sb ob p i u (if a < b then L ++ [tokC 1 a b []] else L) w' ∧ ∀ g t cs, Blk w g t cs → g ≠ ob → v.ownBlock ≠ some g → Blk w' g t cs ∧ u.ownBlock ≠ some g := by
  have H := Lib.hid h
  by_cases hab : a < b
  · rw [if_pos hab]
    have hab' : (a : Int) < (b : Int) := by omega
    have c0 : w.cell? ⟨ob, 0, none⟩ = some v := h.ov.cell 0
    have f0 := h.ov.frozen 0
    have hlt := h.ov.lt
    have HR := Lib.hid h.ro
    have hsz := h.bl.size
    obtain ⟨Av, cv, rfl, _⟩ := own_form h.ro
    clear h
    go_enter Tryz.func96, Tryz.ntmps96
    go_wp2_with (at_builtin; (refine app_new (w := w) rfl (.tmp 8) (.tmp 13) 82 rfl 89 (.agg #[.int .i64 0, .int .i64 0, .int .i64 0, .string ⟨#[]⟩, .slice none 0 0]) 5 64 Tryz.underlying82 tok_info rfl (by decide) (m := 1) [.int .i64 1, .int .i64 (a : Nat), .int .i64 (b : Nat), .string ⟨#[]⟩, .slice none 0 0] HR.out hsz rfl rfl rfl (by decide) (by simp [Value.oneCell']) (by unfold maxLen; omega) (by omega) ?_); intro g4 c4 w4 HB4 HG4 HD4 HL4; have k0 : w4.cell? ⟨ob, 0, none⟩ = some _ := (H.out.ov_grown HG4.out).cell 0; have k1 := (H.out.ov_grown HG4.out).frozen 0)
    go_end0
    refine ⟨rfl, _, H.out.push HB4.out HG4.out HD4.out, fun g t cs hb hne hv => ⟨(hb.same (grown_same HG4.out) ⟨hb.lt, fun e => hv e.symm⟩).far hne _, fun e => ?_⟩⟩
    have e : g4 = g := Option.some.inj e
    subst e
    rcases HL4.out with h | h
    · exact hv h
    · exact absurd hb.lt (by omega)
  · rw [if_neg hab]
    have hab' : ¬ (a : Int) < (b : Int) := by omega
    clear h
    go_enter Tryz.func96, Tryz.ntmps96
    go_wp2_with fail
    go_end0
    exact ⟨rfl, _, H.out, fun g t cs hb _ hv => ⟨hb, hv⟩⟩
set_option maxRecDepth 100000 in
set_option maxHeartbeats 4000000 in
theorem isRaw_open (sb : Nat) (a b : Nat) (w : World) : Calls Tryz.prog 98 #[.pointer (some ⟨sb, 0, none⟩), .agg (tokC 2 a b [112]).toArray] w fun e w' => e = .returned (.bool false) ∧ Below w.heap.size w w' := by
  have HB := Lib.hid ((Below.refl w.heap.size w).alloc (Nat.le_refl _) (.cells (tokC 2 a b [112]).toArray 89))
  have HT := Lib.hid (Blk.new w 89 (tokC 2 a b [112]))
  have c0 : (w.alloc (.cells #[.int .i64 (2 : Nat), .int .i64 (a : Nat), .int .i64 (b : Nat), .string (bstr [112]), .slice none 0 0] 89)).cell? ⟨w.heap.size, 0, none⟩ = some (.int .i64 (2 : Nat)) := HT.out.cell 0
  have c3 : (w.alloc (.cells #[.int .i64 (2 : Nat), .int .i64 (a : Nat), .int .i64 (b : Nat), .string (bstr [112]), .slice none 0 0] 89)).cell? ⟨w.heap.size, 3, none⟩ = some (.string (bstr [112])) := HT.out.cell 3
  have b1 : ((bstr [112]).toList == [115, 99, 114, 105, 112, 116]) = false := by rw [bstr_toList]; decide
  have b2 : ((bstr [112]).toList == [115, 116, 121, 108, 101]) = false := by rw [bstr_toList]; decide
  have b3 : ((bstr [112]).toList == [116, 105, 116, 108, 101]) = false := by rw [bstr_toList]; decide
  go_enter Tryz.func98, Tryz.ntmps98
  rw [show (tokC 2 a b [112]).toArray = #[.int .i64 (2 : Nat), .int .i64 (a : Nat), .int .i64 (b : Nat), .string (bstr [112]), .slice none 0 0] from rfl]
  go_wp2_with fail
  go_quiet (fail)
  go_wp2_with fail
  go_ret
  exact ⟨rfl, below_drewN HB.out _⟩
set_option maxRecDepth 100000 in
set_option maxHeartbeats 4000000 in
theorem isRaw_close (sb : Nat) (a b : Nat) (w : World) : Calls Tryz.prog 98 #[.pointer (some ⟨sb, 0, none⟩), .agg (tokC 3 a b [112]).toArray] w fun e w' => e = .returned (.bool false) ∧ Below w.heap.size w w' := by
  have HB := Lib.hid ((Below.refl w.heap.size w).alloc (Nat.le_refl _) (.cells (tokC 3 a b [112]).toArray 89))
  have HT := Lib.hid (Blk.new w 89 (tokC 3 a b [112]))
  have c0 : (w.alloc (.cells #[.int .i64 (3 : Nat), .int .i64 (a : Nat), .int .i64 (b : Nat), .string (bstr [112]), .slice none 0 0] 89)).cell? ⟨w.heap.size, 0, none⟩ = some (.int .i64 (3 : Nat)) := HT.out.cell 0
  have c3 : (w.alloc (.cells #[.int .i64 (3 : Nat), .int .i64 (a : Nat), .int .i64 (b : Nat), .string (bstr [112]), .slice none 0 0] 89)).cell? ⟨w.heap.size, 3, none⟩ = some (.string (bstr [112])) := HT.out.cell 3
  have b1 : ((bstr [112]).toList == [115, 99, 114, 105, 112, 116]) = false := by rw [bstr_toList]; decide
  have b2 : ((bstr [112]).toList == [115, 116, 121, 108, 101]) = false := by rw [bstr_toList]; decide
  have b3 : ((bstr [112]).toList == [116, 105, 116, 108, 101]) = false := by rw [bstr_toList]; decide
  go_enter Tryz.func98, Tryz.ntmps98
  rw [show (tokC 3 a b [112]).toArray = #[.int .i64 (3 : Nat), .int .i64 (a : Nat), .int .i64 (b : Nat), .string (bstr [112]), .slice none 0 0] from rfl]
  go_wp2_with fail
  go_quiet (fail)
  go_wp2_with fail
  go_ret
  exact ⟨rfl, below_drewN HB.out _⟩
end Go.Proofs.YtnkdcmibafjplaaGreatDoor
namespace Go.Proofs.YtnkdcmibafjplaaGreatDoor
open Go.RowKit
set_option linter.unusedVariables false
set_option linter.unusedSimpArgs false

/-- The page of one paragraph. -/
def pgL (e : List UInt8) : List UInt8 := [60, 112, 62] ++ e ++ [60, 47, 112, 62]
theorem pgL_len (e : List UInt8) : (pgL e).length = e.length + 7 := by simp [pgL]
theorem pgL_0 (e : List UInt8) : (pgL e).drop 0 = 60 :: 112 :: 62 :: (e ++ [60, 47, 112, 62]) := by simp [pgL]
theorem pgL_end (e : List UInt8) : (pgL e).drop (3 + e.length) = [60, 47, 112, 62] := by
  have : pgL e = ([60, 112, 62] ++ e) ++ [60, 47, 112, 62] := rfl
  rw [this, List.drop_append_of_le_length (by simp; omega), List.drop_of_length_le (by simp; omega)]
  rfl
theorem pgL_mid {e : List UInt8} {j : Nat} (h : j < e.length) : (pgL e)[3 + j]'(by rw [pgL_len]; omega) = e[j] := by
  unfold pgL
  rw [List.getElem_append_left (by simp; omega), List.getElem_append_right (by simp)]
  simp
theorem pgL_cut (e : List UInt8) : ((pgL e).drop 3).take e.length = e := by simp [pgL]
/-- The tokens of it. -/
def toksL (n : Nat) : List (List Value) := (if 0 < n then [tokC 2 0 3 [112], tokC 1 3 (3 + n) []] else [tokC 2 0 3 [112]]) ++ [tokC 3 (3 + n) (3 + n + 4) [112]]
theorem toksL_len (n : Nat) : (toksL n).length ≤ 3 := by unfold toksL; split <;> simp
def TokPh (n at_ f : Nat) (L : List (List Value)) : Prop := (at_ = 0 ∧ f = 0 ∧ L = []) ∨ (3 ≤ at_ ∧ at_ ≤ 3 + n ∧ f = 3 ∧ L = [tokC 2 0 3 [112]]) ∨ (at_ = n + 7 ∧ f = n + 7 ∧ L = toksL n)
theorem TokPh.len {n at_ f : Nat} {L : List (List Value)} (h : TokPh n at_ f L) : L.length ≤ 3 := by
  rcases h with ⟨_, _, rfl⟩ | ⟨_, _, _, rfl⟩ | ⟨_, _, rfl⟩
  · simp
  · simp
  · exact toksL_len n
theorem toks_end (n : Nat) : (if 3 < 3 + n then [tokC 2 0 3 [112]] ++ [tokC 1 3 (3 + n) []] else [tokC 2 0 3 [112]]) ++ [tokC 3 (3 + n) (3 + n + 4) [112]] = toksL n := by
  unfold toksL
  by_cases hn0 : 0 < n
  · rw [if_pos (by omega), if_pos hn0]; rfl
  · rw [if_neg (by omega), if_neg hn0]
set_option maxRecDepth 100000 in
set_option maxHeartbeats 8000000 in
theorem tokens_any (e : List UInt8) (he : ∀ c ∈ e, c ≠ 60) (hn : e.length ≤ 150000) (w : World) :
    Calls Tryz.prog 60 #[.string (bstr (pgL e))] w fun x w' => ∃ v, x = .returned (.tuple #[v, .bool true]) ∧ w'.ownsRow w.heap.size 89 5 v (toksL e.length).length (toksL e.length).flatten ∧ Below w.heap.size w w' := by
  have hp := pgL_len e
  have HP0 := Lib.hid (pgL_0 e)
  have HPE := Lib.hid (pgL_end e)
  have HPM := Lib.hid (fun j (h : j < e.length) => pgL_mid h)
  have HE := Lib.hid he
  obtain ⟨n, hne⟩ : ∃ n, e.length = n := ⟨_, rfl⟩
  obtain ⟨p, hpp⟩ : ∃ p, pgL e = p := ⟨_, rfl⟩
  have HNE := Lib.hid hne
  have hsz : (bstr p).size = n + 7 := by rw [bstr_size, ← hpp, hp, hne]
  have hpl : p.length = n + 7 := hsz
  have HPM : Hid (∀ j (h : j < n), ∃ h' : 3 + j < p.length, (p[3 + j]'h').toNat ≠ 60) := Lib.hid (fun j h => ⟨by omega, by
    have h1 := HPM.out j (by omega)
    have h2 := HE.out (e[j]'(by omega)) (List.getElem_mem _)
    simp only [hpp] at h1
    rw [h1]
    intro h3
    exact h2 (UInt8.toNat_inj.1 h3)⟩)
  rw [hpp] at HP0
  rw [hpp, hne] at HPE
  rw [hpp]
  have HPL := Lib.hid hpl
  rw [hne] at hn ⊢
  have HSZ := Lib.hid hsz
  clear hp hpp hpl hsz hne he
  have hal1 := (Below.refl w.heap.size w).alloc (Nat.le_refl _) (.cells #[.string (bstr p), .int .i64 0] 179)
  have hal2 := (Below.refl (w.alloc (.cells #[.string (bstr p), .int .i64 0] 179)).heap.size (w.alloc (.cells #[.string (bstr p), .int .i64 0] 179))).alloc (Nat.le_refl _) (.cells #[.slice none 0 0] 82)
  have hs1 := Blk.new w 179 [.string (bstr p), .int .i64 0]
  have ho1 := Blk.new (w.alloc (.cells #[.string (bstr p), .int .i64 0] 179)) 82 [.slice none 0 0]
  have HT : Hid (TkSt w w.heap.size (w.heap.size + 1) p 0 (.slice none 0 0) [] ((w.alloc (.cells #[.string (bstr p), .int .i64 0] 179)).alloc (.cells #[.slice none 0 0] 82))) := Lib.hid
    ⟨hs1.same (same_below hal2) hs1.lt, by simpa only [World.size_alloc] using ho1, World.ownsRow_nil _ _ _ _, ext_trans hal1 hal2, Nat.le_refl _, Nat.le_succ _⟩
  clear hal1 hal2 hs1 ho1
  go_enter Tryz.func60, Tryz.ntmps60
  go_wp2_with fail
  generalize (w.alloc (.cells #[.string (bstr p), .int .i64 0] 179)).alloc (.cells #[.slice none 0 0] 82) = w2 at *
  obtain ⟨sb, hsb⟩ : ∃ sb, w.heap.size = sb := ⟨_, rfl⟩
  rw [hsb] at HT ⊢
  clear hsb
  go_loopw [7] (fun vf wr => ∃ (at_ f : Nat) (v : Value) (L : List (List Value)), vf = .int .i64 (f : Nat) ∧ Hid (TkSt w sb (sb + 1) p at_ v L wr) ∧ Hid (TokPh n at_ f L)) (fun _ wr => p.length - atOf wr sb)
  case atStart => exact ⟨0, 0, _, [], rfl, HT, Lib.hid (.inl ⟨rfl, rfl, rfl⟩)⟩
  case round =>
    clear HT
    obtain ⟨at_, f, v, L, rfl, HT, HPH⟩ := hrel
    have hL3 := HPH.out.len
    obtain ⟨Av, cv, rfl, _⟩ := own_form HT.out.ro
    have HPH2 := Lib.hid HPH.out
    rcases HPH.out with ⟨h1, h2, h3⟩ | ⟨h1, h2, h3, h4⟩ | ⟨h1, h2, h3⟩
    · have HD : Hid (p.drop at_ = 60 :: 112 :: 62 :: (e ++ [60, 47, 112, 62])) := Lib.hid (by rw [h1]; exact HP0.out)
      have HH := Lib.hid (And.intro h1 (And.intro h2 h3))
      have hf : f ≤ 200000 := by omega
      have ha : at_ ≤ 160000 := by omega
      have hb0 : at_ < (bstr p).size := by rw [HSZ.out]; omega
      have hbi : (at_ : Int) < ((bstr p).size : Int) := by omega
      have hb2 : L.length ≤ 20000 := by omega
      have hb1 : ((bstr p)[at_]'hb0).toNat = 60 := by
        obtain ⟨hq, h2, _⟩ := drop_step HD.out
        have h3 : (p[at_]'hq).toNat = 60 := by rw [h2]; rfl
        exact h3
      clear h1 h2 h3 HPH HPH2
      obtain ⟨c0, c1, f1, hlt⟩ := scn_cells HT.out.sc
      have o0 : wr.cell? ⟨sb + 1, 0, none⟩ = some (.slice Av L.length cv) := HT.out.ov.cell 0
      go_wp2_with fail
      clear c0 c1 f1 hlt o0 hb1 hb2
      refine (token_open sb p at_ _ wr HT.out.sc (by rw [HPL.out]; omega) HD.out).mono ?_
      rintro x w3 ⟨rfl, hs3, hg3⟩
      obtain ⟨m, hm⟩ : ∃ m, at_ + 3 = m := ⟨_, rfl⟩
      rw [hm] at hs3 ⊢
      have HM := Lib.hid hm
      have hml : m ≤ 200000 := by have := HPL.out; omega
      clear hm
      rw [show (tokC 2 at_ m [112]).toArray = #[.int .i64 2, .int .i64 (at_ : Nat), .int .i64 (m : Nat), .string (bstr [112]), .slice none 0 0] from rfl]
      have HT3 := Lib.hid (HT.out.scan hs3 hg3)
      have hal := (Below.refl w3.heap.size w3).alloc (Nat.le_refl _) (.cells #[.int .i64 2, .int .i64 (at_ : Nat), .int .i64 (m : Nat), .string (bstr [112]), .slice none 0 0] 89)
      have HT4 := Lib.hid (HT3.out.below hal)
      have HB4 : Hid (Blk (w3.alloc (.cells #[.int .i64 2, .int .i64 (at_ : Nat), .int .i64 (m : Nat), .string (bstr [112]), .slice none 0 0] 89)) w3.heap.size 89 [.int .i64 2, .int .i64 (at_ : Nat), .int .i64 (m : Nat), .string (bstr [112]), .slice none 0 0]) := Lib.hid (Blk.new w3 _ _)
      have HNV : Hid ((Value.slice Av L.length cv).ownBlock ≠ some w3.heap.size) := Lib.hid (fun e => Nat.lt_irrefl _ (HT3.out.ro.lt _ e).2)
      have HNO : Hid (w3.heap.size ≠ sb + 1) := Lib.hid (Nat.ne_of_gt HT3.out.ov.lt)
      have HNS : Hid (w3.heap.size ≠ sb) := Lib.hid (Nat.ne_of_gt HT3.out.sc.lt)
      have HAT : Hid (atOf wr sb = at_) := Lib.hid (atOf_blk HT.out.sc)
      clear hs3 hg3 hal HT HT3
      go_wp2_with fail
      obtain ⟨tb, htb⟩ : ∃ tb, w3.heap.size = tb := ⟨_, rfl⟩
      rw [htb] at HB4 HNV HNO HNS ⊢
      clear htb
      generalize w3.alloc (.cells #[.int .i64 2, .int .i64 (at_ : Nat), .int .i64 (m : Nat), .string (bstr [112]), .slice none 0 0] 89) = w4 at *
      refine (text_any sb (sb + 1) p m _ L f at_ w w4 HT4.out (by omega) (by omega) (by omega)).mono ?_
      rintro x w5 ⟨rfl, u, ht5, hfr⟩
      obtain ⟨hb5, hu5⟩ := hfr _ _ _ HB4.out HNO.out HNV.out
      obtain ⟨L2, hL2⟩ : ∃ L2, (if f < at_ then L ++ [tokC 1 f at_ []] else L) = L2 := ⟨_, rfl⟩
      rw [hL2] at ht5
      have HL2 := Lib.hid hL2
      have hl2 : L2.length ≤ 4 := by
        rw [← hL2]
        split
        · simp only [List.length_append, List.length_singleton]; omega
        · omega
      clear hL2 hfr
      obtain ⟨Au, cu, rfl, _⟩ := own_form ht5.ro
      have HT5 := Lib.hid ht5
      have HB5 := Lib.hid hb5
      have HU5 := Lib.hid hu5
      have hsz5 := ht5.bl.size
      have HRO := Lib.hid ht5.ro
      have o0 : w5.cell? ⟨sb + 1, 0, none⟩ = some (.slice Au L2.length cu) := ht5.ov.cell 0
      have o1 := ht5.ov.frozen 0
      have t0 : w5.cell? ⟨tb, 0, none⟩ = some (.int .i64 2) := hb5.cell 0
      have t1 : w5.cell? ⟨tb, 1, none⟩ = some (.int .i64 (at_ : Nat)) := hb5.cell 1
      have t2 : w5.cell? ⟨tb, 2, none⟩ = some (.int .i64 (m : Nat)) := hb5.cell 2
      have t3 : w5.cell? ⟨tb, 3, none⟩ = some (.string (bstr [112])) := hb5.cell 3
      have t4 : w5.cell? ⟨tb, 4, none⟩ = some (.slice none 0 0) := hb5.cell 4
      clear ht5 hb5 hu5 HT4 HB4 HNV
      go_wp2_with (at_builtin; refine app_new (w := w5) rfl (.tmp 64) (.tmp 66) 82 rfl 89 (.agg #[.int .i64 0, .int .i64 0, .int .i64 0, .string ⟨#[]⟩, .slice none 0 0]) 5 64 Tryz.underlying82 tok_info rfl (by decide) (m := 1) [.int .i64 2, .int .i64 (at_ : Nat), .int .i64 (m : Nat), .string (bstr [112]), .slice none 0 0] HRO.out hsz5 rfl rfl rfl (by decide) (by simp [Value.oneCell']) (by unfold maxLen; omega) (by omega) ?_; intro g8 c8 w8 HO8 HG8 HD8 HL8; have k0 : w8.cell? ⟨sb + 1, 0, none⟩ = some _ := (HT5.out.ov_grown HG8.out).cell 0; have k1 := (HT5.out.ov_grown HG8.out).frozen 0; have HT8 := Lib.hid (HT5.out.push HO8.out HG8.out HD8.out); have HB8 := Lib.hid ((HB5.out.same (grown_same HG8.out) ⟨HB5.out.lt, fun e => HU5.out e.symm⟩).far HNO.out (i := 0) (.slice (some ⟨g8, 0, none⟩) (L2.length + 1) c8)); have s1 : (w8.setCell ⟨sb + 1, 0, none⟩ (.slice (some ⟨g8, 0, none⟩) (L2.length + 1) c8)).cell? ⟨sb, 1, none⟩ = some (.int .i64 (m : Nat)) := HT8.out.sc.cell 1; have t0 : (w8.setCell ⟨sb + 1, 0, none⟩ (.slice (some ⟨g8, 0, none⟩) (L2.length + 1) c8)).cell? ⟨tb, 0, none⟩ = some (.int .i64 2) := HB8.out.cell 0; have t1 : (w8.setCell ⟨sb + 1, 0, none⟩ (.slice (some ⟨g8, 0, none⟩) (L2.length + 1) c8)).cell? ⟨tb, 1, none⟩ = some (.int .i64 (at_ : Nat)) := HB8.out.cell 1; have t2 : (w8.setCell ⟨sb + 1, 0, none⟩ (.slice (some ⟨g8, 0, none⟩) (L2.length + 1) c8)).cell? ⟨tb, 2, none⟩ = some (.int .i64 (m : Nat)) := HB8.out.cell 2; have t3 : (w8.setCell ⟨sb + 1, 0, none⟩ (.slice (some ⟨g8, 0, none⟩) (L2.length + 1) c8)).cell? ⟨tb, 3, none⟩ = some (.string (bstr [112])) := HB8.out.cell 3; have t4 : (w8.setCell ⟨sb + 1, 0, none⟩ (.slice (some ⟨g8, 0, none⟩) (L2.length + 1) c8)).cell? ⟨tb, 4, none⟩ = some (.slice none 0 0) := HB8.out.cell 4)
      generalize w8.setCell ⟨sb + 1, 0, none⟩ (.slice (some ⟨g8, 0, none⟩) (L2.length + 1) c8) = w9 at *
      clear HO8 HG8 HD8 HL8 k0 k1 HB8 o0 o1 s1 t0 t1 t2 t3 t4 HRO HB5 HU5 HT5 hsz5
      refine (isRaw_open sb at_ m w9).mono ?_
      rintro x w10 ⟨rfl, hb10⟩
      have HT10 := Lib.hid (HT8.out.below hb10)
      go_wp2_with fail
      go_roundw
      case rel => exact ⟨m, m, _, _, by first | rfl | go_num, HT10, Lib.hid (by have := HH.out; have := HM.out; have := HL2.out; obtain ⟨q1, q2, q3⟩ := HH.out; subst q1 q2 q3; refine .inr (.inl ⟨by omega, by omega, by omega, ?_⟩); rw [← HL2.out, ← HM.out]; rfl)⟩
      case measure =>
        rw [atOf_blk HT10.out.sc, HAT.out]
        have := HPL.out
        have := HM.out
        have := HSZ.out
        omega
    · by_cases hat : at_ < 3 + n
      · obtain ⟨hq, h60⟩ := HPM.out (at_ - 3) (by omega)
        simp only [show 3 + (at_ - 3) = at_ from by omega] at hq h60
        have hb0 : at_ < (bstr p).size := hq
        have hbi : (at_ : Int) < ((bstr p).size : Int) := by omega
        have hb2 : L.length ≤ 20000 := by omega
        have hb1 : ((bstr p)[at_]'hb0).toNat = (p[at_]'hq).toNat := rfl
        have hlt60 : (p[at_]'hq).toNat < 256 := UInt8.toNat_lt _
        obtain ⟨c, hc⟩ : ∃ c, (p[at_]'hq).toNat = c := ⟨_, rfl⟩
        rw [hc] at hb1 h60 hlt60
        have hne60 : ((c : Int) != 60) = true := by rw [bne_iff_ne]; omega
        have hw : IntKind.i64.wrap ((at_ : Int) + 1) = (at_ : Int) + 1 := IntWalk.i64_in _ (by omega)
        have HH := Lib.hid (And.intro h1 (And.intro h2 (And.intro h3 h4)))
        obtain ⟨c0, c1, f1, hlt⟩ := scn_cells HT.out.sc
        have o0 : wr.cell? ⟨sb + 1, 0, none⟩ = some (.slice Av L.length cv) := HT.out.ov.cell 0
        clear hc h60 h1 h2 h3 h4 HPH HPH2
        go_wp2_with fail
        have HT2 : Hid (TkSt w sb (sb + 1) p (at_ + 1) (.slice Av L.length cv) L (wr.setCell ⟨sb, 1, none⟩ (.int .i64 ((at_ : Int) + 1)))) := Lib.hid (HT.out.scan (scn_set0 HT.out.sc _ (by omega)) (grown_setCell _ _ _ _))
        have HAT : Hid (atOf wr sb = at_) := Lib.hid (atOf_blk HT.out.sc)
        go_roundw
        case rel => exact ⟨at_ + 1, f, _, L, rfl, HT2, Lib.hid (.inr (.inl ⟨by have := HH.out; omega, by omega, HH.out.2.2.1, HH.out.2.2.2⟩))⟩
        case measure =>
          rw [atOf_blk HT2.out.sc, HAT.out]
          have := HPL.out
          omega
      · have hat2 : at_ = 3 + n := by omega
        have HD : Hid (p.drop at_ = [60, 47, 112, 62]) := Lib.hid (by rw [hat2]; exact HPE.out)
        have HH := Lib.hid (And.intro hat2 (And.intro h3 h4))
        have hf : f ≤ 200000 := by omega
        have ha : at_ ≤ 160000 := by omega
        have hb0 : at_ < (bstr p).size := by rw [HSZ.out]; omega
        have hbi : (at_ : Int) < ((bstr p).size : Int) := by omega
        have hb2 : L.length ≤ 20000 := by omega
        have hb1 : ((bstr p)[at_]'hb0).toNat = 60 := by
          obtain ⟨hq, h2, _⟩ := drop_step HD.out
          have h3 : (p[at_]'hq).toNat = 60 := by rw [h2]; rfl
          exact h3
        clear h1 h2 h3 h4 HPH HPH2 hat hat2
        obtain ⟨c0, c1, f1, hlt⟩ := scn_cells HT.out.sc
        have o0 : wr.cell? ⟨sb + 1, 0, none⟩ = some (.slice Av L.length cv) := HT.out.ov.cell 0
        go_wp2_with fail
        clear c0 c1 f1 hlt o0 hb1 hb2
        refine (token_close sb p at_ _ wr HT.out.sc (by rw [HPL.out]; omega) HD.out).mono ?_
        rintro x w3 ⟨rfl, hs3, hg3⟩
        obtain ⟨m, hm⟩ : ∃ m, at_ + 4 = m := ⟨_, rfl⟩
        rw [hm] at hs3 ⊢
        have HM := Lib.hid hm
        have hml : m ≤ 200000 := by have := HPL.out; omega
        clear hm
        rw [show (tokC 3 at_ m [112]).toArray = #[.int .i64 3, .int .i64 (at_ : Nat), .int .i64 (m : Nat), .string (bstr [112]), .slice none 0 0] from rfl]
        have HT3 := Lib.hid (HT.out.scan hs3 hg3)
        have hal := (Below.refl w3.heap.size w3).alloc (Nat.le_refl _) (.cells #[.int .i64 3, .int .i64 (at_ : Nat), .int .i64 (m : Nat), .string (bstr [112]), .slice none 0 0] 89)
        have HT4 := Lib.hid (HT3.out.below hal)
        have HB4 : Hid (Blk (w3.alloc (.cells #[.int .i64 3, .int .i64 (at_ : Nat), .int .i64 (m : Nat), .string (bstr [112]), .slice none 0 0] 89)) w3.heap.size 89 [.int .i64 3, .int .i64 (at_ : Nat), .int .i64 (m : Nat), .string (bstr [112]), .slice none 0 0]) := Lib.hid (Blk.new w3 _ _)
        have HNV : Hid ((Value.slice Av L.length cv).ownBlock ≠ some w3.heap.size) := Lib.hid (fun e => Nat.lt_irrefl _ (HT3.out.ro.lt _ e).2)
        have HNO : Hid (w3.heap.size ≠ sb + 1) := Lib.hid (Nat.ne_of_gt HT3.out.ov.lt)
        have HNS : Hid (w3.heap.size ≠ sb) := Lib.hid (Nat.ne_of_gt HT3.out.sc.lt)
        have HAT : Hid (atOf wr sb = at_) := Lib.hid (atOf_blk HT.out.sc)
        clear hs3 hg3 hal HT HT3
        go_wp2_with fail
        obtain ⟨tb, htb⟩ : ∃ tb, w3.heap.size = tb := ⟨_, rfl⟩
        rw [htb] at HB4 HNV HNO HNS ⊢
        clear htb
        generalize w3.alloc (.cells #[.int .i64 3, .int .i64 (at_ : Nat), .int .i64 (m : Nat), .string (bstr [112]), .slice none 0 0] 89) = w4 at *
        refine (text_any sb (sb + 1) p m _ L f at_ w w4 HT4.out (by omega) (by omega) (by omega)).mono ?_
        rintro x w5 ⟨rfl, u, ht5, hfr⟩
        obtain ⟨hb5, hu5⟩ := hfr _ _ _ HB4.out HNO.out HNV.out
        obtain ⟨L2, hL2⟩ : ∃ L2, (if f < at_ then L ++ [tokC 1 f at_ []] else L) = L2 := ⟨_, rfl⟩
        rw [hL2] at ht5
        have HL2 := Lib.hid hL2
        have hl2 : L2.length ≤ 4 := by
          rw [← hL2]
          split
          · simp only [List.length_append, List.length_singleton]; omega
          · omega
        clear hL2 hfr
        obtain ⟨Au, cu, rfl, _⟩ := own_form ht5.ro
        have HT5 := Lib.hid ht5
        have HB5 := Lib.hid hb5
        have HU5 := Lib.hid hu5
        have hsz5 := ht5.bl.size
        have HRO := Lib.hid ht5.ro
        have o0 : w5.cell? ⟨sb + 1, 0, none⟩ = some (.slice Au L2.length cu) := ht5.ov.cell 0
        have o1 := ht5.ov.frozen 0
        have t0 : w5.cell? ⟨tb, 0, none⟩ = some (.int .i64 3) := hb5.cell 0
        have t1 : w5.cell? ⟨tb, 1, none⟩ = some (.int .i64 (at_ : Nat)) := hb5.cell 1
        have t2 : w5.cell? ⟨tb, 2, none⟩ = some (.int .i64 (m : Nat)) := hb5.cell 2
        have t3 : w5.cell? ⟨tb, 3, none⟩ = some (.string (bstr [112])) := hb5.cell 3
        have t4 : w5.cell? ⟨tb, 4, none⟩ = some (.slice none 0 0) := hb5.cell 4
        clear ht5 hb5 hu5 HT4 HB4 HNV
        go_wp2_with (at_builtin; refine app_new (w := w5) rfl (.tmp 64) (.tmp 66) 82 rfl 89 (.agg #[.int .i64 0, .int .i64 0, .int .i64 0, .string ⟨#[]⟩, .slice none 0 0]) 5 64 Tryz.underlying82 tok_info rfl (by decide) (m := 1) [.int .i64 3, .int .i64 (at_ : Nat), .int .i64 (m : Nat), .string (bstr [112]), .slice none 0 0] HRO.out hsz5 rfl rfl rfl (by decide) (by simp [Value.oneCell']) (by unfold maxLen; omega) (by omega) ?_; intro g8 c8 w8 HO8 HG8 HD8 HL8; have k0 : w8.cell? ⟨sb + 1, 0, none⟩ = some _ := (HT5.out.ov_grown HG8.out).cell 0; have k1 := (HT5.out.ov_grown HG8.out).frozen 0; have HT8 := Lib.hid (HT5.out.push HO8.out HG8.out HD8.out); have HB8 := Lib.hid ((HB5.out.same (grown_same HG8.out) ⟨HB5.out.lt, fun e => HU5.out e.symm⟩).far HNO.out (i := 0) (.slice (some ⟨g8, 0, none⟩) (L2.length + 1) c8)); have s1 : (w8.setCell ⟨sb + 1, 0, none⟩ (.slice (some ⟨g8, 0, none⟩) (L2.length + 1) c8)).cell? ⟨sb, 1, none⟩ = some (.int .i64 (m : Nat)) := HT8.out.sc.cell 1; have t0 : (w8.setCell ⟨sb + 1, 0, none⟩ (.slice (some ⟨g8, 0, none⟩) (L2.length + 1) c8)).cell? ⟨tb, 0, none⟩ = some (.int .i64 3) := HB8.out.cell 0; have t1 : (w8.setCell ⟨sb + 1, 0, none⟩ (.slice (some ⟨g8, 0, none⟩) (L2.length + 1) c8)).cell? ⟨tb, 1, none⟩ = some (.int .i64 (at_ : Nat)) := HB8.out.cell 1; have t2 : (w8.setCell ⟨sb + 1, 0, none⟩ (.slice (some ⟨g8, 0, none⟩) (L2.length + 1) c8)).cell? ⟨tb, 2, none⟩ = some (.int .i64 (m : Nat)) := HB8.out.cell 2; have t3 : (w8.setCell ⟨sb + 1, 0, none⟩ (.slice (some ⟨g8, 0, none⟩) (L2.length + 1) c8)).cell? ⟨tb, 3, none⟩ = some (.string (bstr [112])) := HB8.out.cell 3; have t4 : (w8.setCell ⟨sb + 1, 0, none⟩ (.slice (some ⟨g8, 0, none⟩) (L2.length + 1) c8)).cell? ⟨tb, 4, none⟩ = some (.slice none 0 0) := HB8.out.cell 4)
        generalize w8.setCell ⟨sb + 1, 0, none⟩ (.slice (some ⟨g8, 0, none⟩) (L2.length + 1) c8) = w9 at *
        clear HO8 HG8 HD8 HL8 k0 k1 HB8 o0 o1 s1 t0 t1 t2 t3 t4 HRO HB5 HU5 HT5 hsz5
        refine (isRaw_close sb at_ m w9).mono ?_
        rintro x w10 ⟨rfl, hb10⟩
        have HT10 := Lib.hid (HT8.out.below hb10)
        go_wp2_with fail
        go_roundw
        case rel => exact ⟨m, m, _, _, by first | rfl | go_num, HT10, Lib.hid (by obtain ⟨q1, q2, q3⟩ := HH.out; have hm := HM.out; refine .inr (.inr ⟨by omega, by omega, ?_⟩); rw [← HL2.out, ← hm]; subst q1 q2 q3; exact toks_end n)⟩
        case measure =>
          rw [atOf_blk HT10.out.sc, HAT.out]
          have := HPL.out
          have := HM.out
          have := HSZ.out
          omega
    · have hb0 : ¬ (at_ : Int) < ((bstr p).size : Int) := by rw [HSZ.out]; omega
      have hb1 : ¬ at_ < (bstr p).size := by rw [HSZ.out]; omega
      have HH := Lib.hid (And.intro h1 (And.intro h2 h3))
      have hf : f ≤ 200000 := by omega
      obtain ⟨c0, c1, f1, hlt⟩ := scn_cells HT.out.sc
      clear h1 h2 h3 HPH HPH2
      go_wp2_with fail
      clear c0 c1 f1 hlt
      refine (text_any sb (sb + 1) p at_ _ L f (bstr p).size w wr HT.out (by omega) (by omega) (by rw [HSZ.out]; omega)).mono ?_
      rintro x w5 ⟨rfl, u, ht5, _⟩
      rw [if_neg (by have := HH.out; rw [HSZ.out]; omega)] at ht5
      obtain ⟨Au, cu, rfl, _⟩ := own_form ht5.ro
      have HT5 := Lib.hid ht5
      have o0 : w5.cell? ⟨sb + 1, 0, none⟩ = some (.slice Au L.length cu) := ht5.ov.cell 0
      have olt := ht5.ov.lt
      have hb2 : L.length ≤ 20000 := by omega
      have hd : decide ((L.length : Int) ≤ 20000) = true := decide_eq_true (by omega)
      clear ht5 HT
      go_wp2_with fail
      go_quiet (fail)
      go_wp2_with fail
      go_ret2
      have h3 := HH.out.2.2
      have hro := HT5.out.ro
      rw [h3] at hro ⊢
      refine ⟨_, rfl, ?_, below_drewN HT5.out.bl _⟩
      exact own_drewN hro _
end Go.Proofs.YtnkdcmibafjplaaGreatDoor
