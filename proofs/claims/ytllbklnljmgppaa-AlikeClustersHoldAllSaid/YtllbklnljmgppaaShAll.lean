/-
  Words and Shingles of both packages, with their faults.
-/
import Derived.Test.YtllbklnljmgppaaProg
import Derived.Test.YtllbklnljmgppaaShin
namespace Go.Proofs.Ytllbklnljmgppaa
open Go.RowKit
set_option linter.unusedVariables false
set_option linter.unusedSimpArgs false

def withinB (n lo hi : Int) : Bool := decide (lo ≤ n ∧ n ≤ hi)
set_option maxRecDepth 100000 in
set_option maxHeartbeats 400000 in
theorem within_any (n lo hi : Int) (w : World) : Calls Try.prog 37 #[.int .i64 n, .int .i64 lo, .int .i64 hi] w fun e w' => e = .returned (.bool (withinB n lo hi)) ∧ w = w' := by
  by_cases h1 : lo ≤ n
  · by_cases h2 : n ≤ hi
    · have hd : Hid (withinB n lo hi = true) := decide_eq_true ⟨h1, h2⟩
      go_enter Try.func37, Try.ntmps37
      go_wp2
      go_ret
      exact ⟨by rw [hd.out]; rfl, rfl⟩
    · have hd : Hid (withinB n lo hi = false) := decide_eq_false (fun h => h2 h.2)
      go_enter Try.func37, Try.ntmps37
      go_wp2
      go_ret
      exact ⟨by rw [hd.out]; rfl, rfl⟩
  · have hd : Hid (withinB n lo hi = false) := decide_eq_false (fun h => h1 h.1)
    go_enter Try.func37, Try.ntmps37
    go_wp2
    go_ret
    exact ⟨by rw [hd.out]; rfl, rfl⟩

def isSh (n : Int) : Bool := decide (1 ≤ n ∧ n ≤ 10)
set_option maxRecDepth 100000 in
theorem isShingle_any (n : Int) (w : World) : Calls Try.prog 31 #[.int .i64 n] w fun e w' => e = .returned (.bool (isSh n)) ∧ w = w' := by
  by_cases h1 : 1 ≤ n
  · by_cases h2 : n ≤ 10
    · have hd : Hid (isSh n = true) := decide_eq_true ⟨h1, h2⟩
      go_enter Try.func31, Try.ntmps31
      go_wp2
      go_ret
      exact ⟨by rw [hd.out]; rfl, rfl⟩
    · have hd : Hid (isSh n = false) := decide_eq_false (fun h => h2 h.2)
      go_enter Try.func31, Try.ntmps31
      go_wp2
      go_ret
      exact ⟨by rw [hd.out]; rfl, rfl⟩
  · have hd : Hid (isSh n = false) := decide_eq_false (fun h => h1 h.1)
    go_enter Try.func31, Try.ntmps31
    go_wp2
    go_ret
    exact ⟨by rw [hd.out]; rfl, rfl⟩
theorem add_nilT (g : Nat) : (⟨g, 0, none⟩ : Addr).add 0 = ⟨g, 0, none⟩ := by unfold Addr.add; simp
theorem oneText_ok (t : List UInt8) (w : World) (h : t.length ≤ maxLen) : (Rp.sl Rp.str).ok (w.alloc (.cells #[.string (bstr t)] 9)) (· < w.heap.size + 1) [.slice (some ⟨w.heap.size, 0, none⟩) 1 1] [bstr t] := by
  refine ⟨_, _, rfl, by simp, by simp [maxLen], by simp, fun k hk => ?_⟩
  obtain rfl : k = 0 := by simpa using hk
  refine ⟨_, _, rfl, by simp, ⟨rfl, by rw [List.getElem_cons_zero, bstr_size]; unfold maxLen at *; omega⟩, fun j u hu => ?_⟩
  match j, hu with
  | 0, hu => rw [show (0 * Rp.str.sz + 0) = 0 from rfl, add_nilT]; exact (cell_of_row _ _ 0 _ _ _ (heap_alloc_new w _)).trans hu
def txF (t : List UInt8) : Int := if t.length ≤ 20000 then 0 else 2
theorem textsFault_one (t : List UInt8) : textsFault [bstr t] = txF t := by
  unfold txF
  by_cases h : t.length ≤ 20000
  · rw [if_pos h, textsFault_good (fun s hs => by rw [List.mem_singleton.1 hs, bstr_size]; exact h)]
  · rw [if_neg h, textsFault_bad (k := 0) (by simp) (by simp [bstr_size]; omega)]
def wordsO (t : List UInt8) : List (List UInt8) := if t.length ≤ 20000 then wordsL t else []
def WordsAllPost (t : List UInt8) (w : World) (e : Ending) (w' : World) : Prop :=
  ∃ v, e = .returned (.tuple #[v, .int .i64 (txF t)]) ∧ w'.ownsRow w.heap.size 9 1 v (wordsO t).length (strs (wordsO t)) ∧ Below w.heap.size w w'
theorem below_pre {w a b : World} {B : Nat} (h1 : Below w.heap.size w a) (h2 : Below a.heap.size a b) : Below w.heap.size w b := below_trans2 h1 h2 h1.size
theorem own_base {w : World} {B B' : Nat} {e : TypeId} {size n : Nat} {v : Value} {xs : List Value} (h : w.ownsRow B e size v n xs) (hB : B' ≤ B) : w.ownsRow B' e size v n xs := by
  refine ⟨h.1, ?_⟩
  rcases h.2 with hn | ⟨g, cap, cur, e1, hb, rest⟩
  · exact .inl hn
  · exact .inr ⟨g, cap, cur, e1, Nat.le_trans hB hb, rest⟩
def shF (t : List UInt8) (n : Int) : Int := if t.length ≤ 20000 then (if isSh n = true then 0 else 1) else 2
def shO (t : List UInt8) (n : Int) : List Int := if shF t n = 0 then shL t n.toNat else []
def ShAllPost (t : List UInt8) (n : Int) (w : World) (e : Ending) (w' : World) : Prop :=
  ∃ v, e = .returned (.tuple #[v, .int .i64 (shF t n)]) ∧ w'.ownsRow w.heap.size 27 1 v (shO t n).length ((shO t n).map u64V) ∧ Below w.heap.size w w'
set_option maxRecDepth 100000 in
set_option maxHeartbeats 1000000 in
theorem wordsAll_any (t : List UInt8) (w : World) (h : t.length ≤ maxLen) : Calls Try.prog 12 #[.string (bstr t)] w (WordsAllPost t w) := by
  have HR := Lib.hid (oneText_ok t w h)
  have HF := Lib.hid (textsFault_one t)
  have HB : Hid (Below w.heap.size w (w.alloc (.cells #[.string (bstr t)] 9))) := Lib.hid ((Below.refl _ _).alloc (Nat.le_refl _) _)
  by_cases ht : t.length ≤ 20000
  · have hf : txF t = 0 := if_pos ht
    have HO : Hid (wordsO t = wordsL t ∧ txF t = 0) := Lib.hid ⟨if_pos ht, hf⟩
    have HW := Lib.hid (words_any t (w.alloc (.cells #[.string (bstr t)] 9)) ht)
    go_enter Try.func12, Try.ntmps12
    go_wp2_with (at_builtin; fail)
    refine (checkTexts_any _ _ _ _ HR.out).mono ?_
    rintro e w1 ⟨rfl, rfl⟩
    rw [HF.out, hf]
    go_wp2_with (at_builtin; fail)
    refine HW.out.mono ?_
    rintro e w2 ⟨v, rfl, hO, hb⟩
    have HP : Hid (WordsAllPost t w (.returned (.tuple #[v, .int .i64 0])) w2) := Lib.hid ⟨v, by rw [HO.out.2], by rw [HO.out.1]; exact own_base hO (by simp), below_pre (B := 0) HB.out hb⟩
    clear hO hb
    go_wp2_with fail
    go_ret2
    exact HP.out
  · have hf : txF t = 2 := if_neg ht
    have HO : Hid (wordsO t = [] ∧ txF t = 2) := Lib.hid ⟨if_neg ht, hf⟩
    go_enter Try.func12, Try.ntmps12
    go_wp2_with (at_builtin; fail)
    refine (checkTexts_any _ _ _ _ HR.out).mono ?_
    rintro e w1 ⟨rfl, rfl⟩
    rw [HF.out, hf]
    go_wp2_with fail
    go_ret2
    exact (show WordsAllPost t w (.returned (.tuple #[.slice none 0 0, .int .i64 2])) _ from ⟨_, by rw [HO.out.2], by rw [HO.out.1]; exact World.ownsRow_nil _ _ _ _, HB.out⟩)
set_option maxRecDepth 100000 in
set_option maxHeartbeats 1000000 in
theorem refWordsAll_any (t : List UInt8) (w : World) (h : t.length ≤ maxLen) : Calls Try.prog 13 #[.string (bstr t)] w (WordsAllPost t w) := by
  unfold maxLen at h
  have hsz : (bstr t).size = t.length := rfl
  by_cases ht : t.length ≤ 20000
  · have HO : Hid (wordsO t = wordsL t ∧ txF t = 0) := Lib.hid ⟨if_pos ht, if_pos ht⟩
    have HW := Lib.hid (refWords_any t w ht)
    have d1 : ¬ (20000 : Int) < (t.length : Int) := by omega
    go_enter Try.func13, Try.ntmps13
    go_wp2_with (at_builtin; fail)
    refine HW.out.mono ?_
    rintro e w2 ⟨v, rfl, hO, hb⟩
    have HP : Hid (WordsAllPost t w (.returned (.tuple #[v, .int .i64 0])) w2) := Lib.hid ⟨v, by rw [HO.out.2], by rw [HO.out.1]; exact hO, hb⟩
    clear hO hb
    go_wp2_with fail
    go_ret2
    exact HP.out
  · have HO : Hid (wordsO t = [] ∧ txF t = 2) := Lib.hid ⟨if_neg ht, if_neg ht⟩
    have d1 : (20000 : Int) < (t.length : Int) := by omega
    go_enter Try.func13, Try.ntmps13
    go_wp2_with fail
    go_ret2
    exact (show WordsAllPost t w (.returned (.tuple #[.slice none 0 0, .int .i64 2])) _ from ⟨_, by rw [HO.out.2], by rw [HO.out.1]; exact World.ownsRow_nil _ _ _ _, Below.refl _ _⟩)
set_option maxRecDepth 100000 in
set_option maxHeartbeats 1000000 in
theorem shAll_any (t : List UInt8) (n : Int) (w : World) (h : t.length ≤ maxLen) : Calls Try.prog 15 #[.string (bstr t), .int .i64 n] w (ShAllPost t n w) := by
  have HR := Lib.hid (oneText_ok t w h)
  have HF := Lib.hid (textsFault_one t)
  have HB : Hid (Below w.heap.size w (w.alloc (.cells #[.string (bstr t)] 9))) := Lib.hid ((Below.refl _ _).alloc (Nat.le_refl _) _)
  have HI := Lib.hid (isShingle_any n)
  by_cases ht : t.length ≤ 20000
  · have hf : txF t = 0 := if_pos ht
    cases hn : isSh n with
    | true =>
      have HO : Hid (shO t n = shL t n.toNat ∧ shF t n = 0) := Lib.hid (by have : shF t n = 0 := by rw [shF, if_pos ht, if_pos hn]
                                                                           exact ⟨if_pos this, this⟩)
      have hn2 : 1 ≤ n ∧ n ≤ 10 := of_decide_eq_true hn
      obtain ⟨m, rfl⟩ := Int.eq_ofNat_of_zero_le (show 0 ≤ n by omega)
      have HW := Lib.hid (shingles_any t m (w.alloc (.cells #[.string (bstr t)] 9)) ht (by omega) (by omega))
      go_enter Try.func15, Try.ntmps15
      go_wp2_with (at_builtin; fail)
      refine (checkTexts_any _ _ _ _ HR.out).mono ?_
      rintro e w1 ⟨rfl, rfl⟩
      rw [HF.out, hf]
      go_wp2_with (at_builtin; fail)
      refine (HI.out _).mono ?_
      rintro e w1 ⟨rfl, rfl⟩
      rw [hn]
      go_wp2_with (at_builtin; fail)
      refine HW.out.mono ?_
      rintro e w2 ⟨v, rfl, hO, hb⟩
      have HP : Hid (ShAllPost t m w (.returned (.tuple #[v, .int .i64 0])) w2) := Lib.hid ⟨v, by rw [HO.out.2], by rw [HO.out.1]; exact own_base hO (by simp), below_pre (B := 0) HB.out hb⟩
      clear hO hb
      go_wp2_with fail
      go_ret2
      exact HP.out
    | false =>
      have HO : Hid (shO t n = [] ∧ shF t n = 1) := Lib.hid (by have : shF t n = 1 := by rw [shF, if_pos ht, if_neg (by rw [hn]; decide)]
                                                                exact ⟨if_neg (by rw [this]; decide), this⟩)
      go_enter Try.func15, Try.ntmps15
      go_wp2_with (at_builtin; fail)
      refine (checkTexts_any _ _ _ _ HR.out).mono ?_
      rintro e w1 ⟨rfl, rfl⟩
      rw [HF.out, hf]
      go_wp2_with (at_builtin; fail)
      refine (HI.out _).mono ?_
      rintro e w1 ⟨rfl, rfl⟩
      rw [hn]
      go_wp2_with fail
      go_ret2
      exact (show ShAllPost t n w (.returned (.tuple #[.slice none 0 0, .int .i64 1])) _ from ⟨_, by rw [HO.out.2], by rw [HO.out.1]; exact World.ownsRow_nil _ _ _ _, HB.out⟩)
  · have hf : txF t = 2 := if_neg ht
    have HO : Hid (shO t n = [] ∧ shF t n = 2) := Lib.hid (by have : shF t n = 2 := by rw [shF, if_neg ht]
                                                              exact ⟨if_neg (by rw [this]; decide), this⟩)
    go_enter Try.func15, Try.ntmps15
    go_wp2_with (at_builtin; fail)
    refine (checkTexts_any _ _ _ _ HR.out).mono ?_
    rintro e w1 ⟨rfl, rfl⟩
    rw [HF.out, hf]
    go_wp2_with fail
    go_ret2
    exact (show ShAllPost t n w (.returned (.tuple #[.slice none 0 0, .int .i64 2])) _ from ⟨_, by rw [HO.out.2], by rw [HO.out.1]; exact World.ownsRow_nil _ _ _ _, HB.out⟩)
set_option maxRecDepth 100000 in
set_option maxHeartbeats 1000000 in
theorem refShAll_any (t : List UInt8) (n : Int) (w : World) (h : t.length ≤ maxLen) : Calls Try.prog 16 #[.string (bstr t), .int .i64 n] w (ShAllPost t n w) := by
  unfold maxLen at h
  have hsz : (bstr t).size = t.length := rfl
  have HI : Hid (∀ w, Calls Try.prog 37 #[.int .i64 n, .int .i64 1, .int .i64 10] w fun e w' => e = .returned (.bool (isSh n)) ∧ w = w') := Lib.hid (fun w => within_any n 1 10 w)
  by_cases ht : t.length ≤ 20000
  · have d1 : ¬ (20000 : Int) < (t.length : Int) := by omega
    cases hn : isSh n with
    | true =>
      have HO : Hid (shO t n = shL t n.toNat ∧ shF t n = 0) := Lib.hid (by have : shF t n = 0 := by rw [shF, if_pos ht, if_pos hn]
                                                                           exact ⟨if_pos this, this⟩)
      have hn2 : 1 ≤ n ∧ n ≤ 10 := of_decide_eq_true hn
      obtain ⟨m, rfl⟩ := Int.eq_ofNat_of_zero_le (show 0 ≤ n by omega)
      have HW := Lib.hid (refShingles_any t m w ht (by omega) (by omega))
      go_enter Try.func16, Try.ntmps16
      go_wp2_with (at_builtin; fail)
      refine (HI.out _).mono ?_
      rintro e w1 ⟨rfl, rfl⟩
      rw [hn]
      go_wp2_with (at_builtin; fail)
      refine HW.out.mono ?_
      rintro e w2 ⟨v, rfl, hO, hb⟩
      have HP : Hid (ShAllPost t m w (.returned (.tuple #[v, .int .i64 0])) w2) := Lib.hid ⟨v, by rw [HO.out.2], by rw [HO.out.1]; exact hO, hb⟩
      clear hO hb
      go_wp2_with fail
      go_ret2
      exact HP.out
    | false =>
      have HO : Hid (shO t n = [] ∧ shF t n = 1) := Lib.hid (by have : shF t n = 1 := by rw [shF, if_pos ht, if_neg (by rw [hn]; decide)]
                                                                exact ⟨if_neg (by rw [this]; decide), this⟩)
      go_enter Try.func16, Try.ntmps16
      go_wp2_with (at_builtin; fail)
      refine (HI.out _).mono ?_
      rintro e w1 ⟨rfl, rfl⟩
      rw [hn]
      go_wp2_with fail
      go_ret2
      exact (show ShAllPost t n w (.returned (.tuple #[.slice none 0 0, .int .i64 1])) _ from ⟨_, by rw [HO.out.2], by rw [HO.out.1]; exact World.ownsRow_nil _ _ _ _, Below.refl _ _⟩)
  · have HO : Hid (shO t n = [] ∧ shF t n = 2) := Lib.hid (by have : shF t n = 2 := by rw [shF, if_neg ht]
                                                              exact ⟨if_neg (by rw [this]; decide), this⟩)
    have d1 : (20000 : Int) < (t.length : Int) := by omega
    go_enter Try.func16, Try.ntmps16
    go_wp2_with fail
    go_ret2
    exact (show ShAllPost t n w (.returned (.tuple #[.slice none 0 0, .int .i64 2])) _ from ⟨_, by rw [HO.out.2], by rw [HO.out.1]; exact World.ownsRow_nil _ _ _ _, Below.refl _ _⟩)
/-! ### What the rows read as -/
theorem wordsO_read {t : List UInt8} {w : World} {v : Value} {B : Nat} (h : w.ownsRow B 9 1 v (wordsO t).length (strs (wordsO t))) : (Rp.sl Rp.str).ok w (· < w.heap.size) [v] ((wordsO t).map bstr) :=
  Rp.str_own (n := (wordsO t).length) (B := B) (e := 9) (by rw [List.map_map]; exact h) (fun x hx => by
    obtain ⟨s, hs, rfl⟩ := List.mem_map.1 hx
    rw [bstr_size]
    unfold wordsO at hs
    by_cases ht : t.length ≤ 20000
    · rw [if_pos ht] at hs
      have := wordsL_size ht s hs
      unfold maxLen; omega
    · rw [if_neg ht] at hs; simp at hs) (fun g hg => (h.lt g hg).2)
theorem shO_read {t : List UInt8} {n : Int} {w : World} {v : Value} {B : Nat} (h : w.ownsRow B 27 1 v (shO t n).length ((shO t n).map u64V)) : (Rp.sl (Rp.int .u64)).ok w (· < w.heap.size) [v] (shO t n) :=
  Rp.int_own (k := .u64) (n := (shO t n).length) (B := B) (e := 27) h (fun x hx => by
    have hr : 0 ≤ x ∧ x ≤ 18446744073709551615 := by
      unfold shO at hx
      split at hx
      · exact shL_range hx
      · simp at hx
    simp [Lit.wf, IntKind.min, IntKind.max, IntKind.signed, IntKind.bits]; omega) (fun g hg => (h.lt g hg).2)
end Go.Proofs.Ytllbklnljmgppaa
