/-
  Words and Shingles of both packages, with their faults.
-/
import Derived.Test.YtnkdcmibafjplaaGreatDoorProg
import Derived.Test.YtnkdcmibafjplaaGreatDoorShin
namespace Go.Proofs.YtnkdcmibafjplaaGreatDoor
open Go.RowKit
set_option linter.unusedVariables false
set_option linter.unusedSimpArgs false

def withinB (n lo hi : Int) : Bool := decide (lo ≤ n ∧ n ≤ hi)
def isSh (n : Int) : Bool := decide (1 ≤ n ∧ n ≤ 10)
set_option maxRecDepth 100000 in
theorem isShingle_any (n : Int) (w : World) : Calls Tryz.prog 17 #[.int .i64 n] w fun e w' => e = .returned (.bool (isSh n)) ∧ w = w' := by
  by_cases h1 : 1 ≤ n
  · by_cases h2 : n ≤ 10
    · have hd : Hid (isSh n = true) := decide_eq_true ⟨h1, h2⟩
      go_enter Tryz.func17, Tryz.ntmps17
      go_wp2
      go_ret
      exact ⟨by rw [hd.out]; rfl, rfl⟩
    · have hd : Hid (isSh n = false) := decide_eq_false (fun h => h2 h.2)
      go_enter Tryz.func17, Tryz.ntmps17
      go_wp2
      go_ret
      exact ⟨by rw [hd.out]; rfl, rfl⟩
  · have hd : Hid (isSh n = false) := decide_eq_false (fun h => h1 h.1)
    go_enter Tryz.func17, Tryz.ntmps17
    go_wp2
    go_ret
    exact ⟨by rw [hd.out]; rfl, rfl⟩
theorem add_nilT (g : Nat) : (⟨g, 0, none⟩ : Addr).add 0 = ⟨g, 0, none⟩ := by unfold Addr.add; simp
theorem oneText_ok (t : List UInt8) (w : World) (h : t.length ≤ maxLen) : (Rp.sl Rp.str).ok (w.alloc (.cells #[.string (bstr t)] 9)) (· < w.heap.size + 1) [.slice (some ⟨w.heap.size, 0, none⟩) 1 1] [bstr t] := by
  refine ⟨_, _, rfl, by simp, by simp [maxLen], by simp, fun k hk => ?_⟩
  obtain rfl : k = 0 := by simpa using hk
  refine ⟨_, _, rfl, by simp, ⟨rfl, by rw [List.getElem_cons_zero, bstr_size]; unfold maxLen at *; omega⟩, fun j u hu => ?_⟩
  match j, hu with
  | 0, hu => rw [show (0 * Rp.str.sz + 0) = 0 from rfl, add_nilT]; exact (cell_of_row _ _ 0 _ _ _ (heap_alloc_new w _)).trans hu
def txF (t : List UInt8) : Int := if t.length ≤ 20000 then 0 else 2
theorem textsFault_one (t : List UInt8) : textsFault [bstr t] = txF t := by
  unfold txF
  by_cases h : t.length ≤ 20000
  · rw [if_pos h, textsFault_good (fun s hs => by rw [List.mem_singleton.1 hs, bstr_size]; exact h)]
  · rw [if_neg h, textsFault_bad (k := 0) (by simp) (by simp [bstr_size]; omega)]
def wordsO (t : List UInt8) : List (List UInt8) := if t.length ≤ 20000 then wordsL t else []
def WordsAllPost (t : List UInt8) (w : World) (e : Ending) (w' : World) : Prop :=
  ∃ v, e = .returned (.tuple #[v, .int .i64 (txF t)]) ∧ w'.ownsRow w.heap.size 9 1 v (wordsO t).length (strs (wordsO t)) ∧ Below w.heap.size w w'
theorem below_pre {w a b : World} {B : Nat} (h1 : Below w.heap.size w a) (h2 : Below a.heap.size a b) : Below w.heap.size w b := below_trans2 h1 h2 h1.size
theorem own_base {w : World} {B B' : Nat} {e : TypeId} {size n : Nat} {v : Value} {xs : List Value} (h : w.ownsRow B e size v n xs) (hB : B' ≤ B) : w.ownsRow B' e size v n xs := by
  refine ⟨h.1, ?_⟩
  rcases h.2 with hn | ⟨g, cap, cur, e1, hb, rest⟩
  · exact .inl hn
  · exact .inr ⟨g, cap, cur, e1, Nat.le_trans hB hb, rest⟩
def shF (t : List UInt8) (n : Int) : Int := if t.length ≤ 20000 then (if isSh n = true then 0 else 1) else 2
def shO (t : List UInt8) (n : Int) : List Int := if shF t n = 0 then shL t n.toNat else []
def ShAllPost (t : List UInt8) (n : Int) (w : World) (e : Ending) (w' : World) : Prop :=
  ∃ v, e = .returned (.tuple #[v, .int .i64 (shF t n)]) ∧ w'.ownsRow w.heap.size 95 1 v (shO t n).length ((shO t n).map u64V) ∧ Below w.heap.size w w'
/-! ### What the rows read as -/
theorem wordsO_read {t : List UInt8} {w : World} {v : Value} {B : Nat} (h : w.ownsRow B 9 1 v (wordsO t).length (strs (wordsO t))) : (Rp.sl Rp.str).ok w (· < w.heap.size) [v] ((wordsO t).map bstr) :=
  Rp.str_own (n := (wordsO t).length) (B := B) (e := 9) (by rw [List.map_map]; exact h) (fun x hx => by
    obtain ⟨s, hs, rfl⟩ := List.mem_map.1 hx
    rw [bstr_size]
    unfold wordsO at hs
    by_cases ht : t.length ≤ 20000
    · rw [if_pos ht] at hs
      have := wordsL_size ht s hs
      unfold maxLen; omega
    · rw [if_neg ht] at hs; simp at hs) (fun g hg => (h.lt g hg).2)
theorem shO_read {t : List UInt8} {n : Int} {w : World} {v : Value} {B : Nat} (h : w.ownsRow B 95 1 v (shO t n).length ((shO t n).map u64V)) : (Rp.sl (Rp.int .u64)).ok w (· < w.heap.size) [v] (shO t n) :=
  Rp.int_own (k := .u64) (n := (shO t n).length) (B := B) (e := 95) h (fun x hx => by
    have hr : 0 ≤ x ∧ x ≤ 18446744073709551615 := by
      unfold shO at hx
      split at hx
      · exact shL_range hx
      · simp at hx
    simp [Lit.wf, IntKind.min, IntKind.max, IntKind.signed, IntKind.bits]; omega) (fun g hg => (h.lt g hg).2)
end Go.Proofs.YtnkdcmibafjplaaGreatDoor
