/-
  'Below' of the reference; a digest is one. (Lines of the texts Clone, LeadPlain, WalkRoot and TreePlain.)
-/
import Derived.Test.YtnnoolemmnailaaDoorProg
import Derived.Test.YtnnoolemmnailaaDoorRow
import Derived.Test.YtnnoolemmnailaaDoorFirstF
import Derived.Laws.OwnMore
namespace Go.Proofs.YtnnoolemmnailaaDoor
open Go.RowKit
set_option linter.unusedVariables false
set_option linter.unusedSimpArgs false

theorem getD_lt {α : Type} (l : List α) (i : Nat) (d : α) (h : i < l.length) : l.getD i d = l[i] := by simp [h]
theorem hexB_mem (m : Int) : hexSet.contains (hexB m) = true := by
  have h : (m % 16).toNat < 16 := by omega
  unfold hexB hexSet
  revert h
  generalize (m % 16).toNat = k
  intro h
  have : ∀ k < 16, ([48, 49, 50, 51, 52, 53, 54, 55, 56, 57, 97, 98, 99, 100, 101, 102] : List UInt8).contains (([48, 49, 50, 51, 52, 53, 54, 55, 56, 57, 97, 98, 99, 100, 101, 102] : List UInt8).getD k 0) = true := by decide
  exact this k h
theorem isDig_digL (t : List UInt8) : isDig (digL t) = true := by
  unfold isDig
  rw [digL_len, decide_eq_true rfl, Bool.true_and, List.all_eq_true]
  intro c hc
  unfold digL hexL at hc
  obtain ⟨i, _, rfl⟩ := List.mem_map.1 hc
  exact hexB_mem _
def belowK (x : Int) (n : Nat) : Nat := (x % (n : Int)).toNat
theorem belowK_lt (x : Int) {n : Nat} (h : 0 < n) : belowK x n < n := by unfold belowK; have := Int.emod_lt_of_pos x (show (0 : Int) < n by omega); have := Int.emod_nonneg x (show (n : Int) ≠ 0 by omega); omega
set_option maxHeartbeats 400000 in
theorem refBelow_any (x : Int) (n : Nat) (w : World) (h0 : 0 < n) (hn : n ≤ 100000) (hx : (Lit.int .i64 x).wf = true) :
    Calls Tryd.prog 17 #[.int .i64 x, .int .i64 n] w fun e w' => e = .returned (.int .i64 (belowK x n)) ∧ w = w' := by
  have hlo := Int.emod_nonneg x (show (n : Int) ≠ 0 by omega)
  have hhi := Int.emod_lt_of_pos x (show (0 : Int) < n by omega)
  have hte := @Int.tmod_eq_emod x n
  by_cases h : x.tmod n < 0
  · have hv : x.tmod n + n = (belowK x n : Int) := by
      unfold belowK
      split at hte <;> omega
    have hw : wrap64 (x.tmod n + n) = (belowK x n : Int) := by rw [hv]; exact IntWalk.wrap64_in _ (by have := belowK_lt x h0; omega)
    have HW := Lib.hid hw
    clear hlo hhi hte hw hv
    go_enter Tryd.func17, Tryd.ntmps17
    go_wp2
    go_ret
    exact ⟨by show Ending.returned (Value.int .i64 (wrap64 (x.tmod n + n))) = _; rw [HW.out], rfl⟩
  · have hv : x.tmod n = (belowK x n : Int) := by
      unfold belowK
      split at hte <;> omega
    have HV := Lib.hid hv
    clear hlo hhi hte hv
    go_enter Tryd.func17, Tryd.ntmps17
    go_wp2
    go_ret
    exact ⟨by show Ending.returned (Value.int .i64 (x.tmod n)) = _; rw [HV.out], rfl⟩
end Go.Proofs.YtnnoolemmnailaaDoor
