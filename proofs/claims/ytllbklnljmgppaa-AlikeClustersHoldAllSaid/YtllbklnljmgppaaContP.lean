/-
  Resemblance and Contained of both packages.
-/
import Derived.Test.YtllbklnljmgppaaProg
import Derived.Test.YtllbklnljmgppaaShAll
import Derived.Test.YtllbklnljmgppaaResem
namespace Go.Proofs.Ytllbklnljmgppaa
open Go.RowKit
set_option linter.unusedVariables false
set_option linter.unusedSimpArgs false

def txB (a b : List UInt8) : Bool := decide (a.length ≤ 20000 ∧ b.length ≤ 20000)
def askF (a b : List UInt8) (n : Int) : Int := if txB a b = true then (if isSh n = true then 0 else 1) else 2
def qRes (a b : List UInt8) (n : Int) : Nat × Nat := if askF a b n = 0 then resQ (shL a n.toNat) (shL b n.toNat) else (0, 0)
def conQ (x y : List Int) : Nat × Nat := if x.length = 0 then (1, 1) else ratQ (com x y) x.length
def qCon (a b : List UInt8) (n : Int) : Nat × Nat := if askF a b n = 0 then conQ (shL a n.toNat) (shL b n.toNat) else (0, 0)
theorem twoText_ok (a b : List UInt8) (w : World) (ha : a.length ≤ maxLen) (hb : b.length ≤ maxLen) : (Rp.sl Rp.str).ok (w.alloc (.cells #[.string (bstr a), .string (bstr b)] 9)) (· < w.heap.size + 1) [.slice (some ⟨w.heap.size, 0, none⟩) 2 2] [bstr a, bstr b] := by
  refine ⟨_, _, rfl, by simp, by simp [maxLen], by simp, fun k hk => ?_⟩
  have hk2 : k < 2 := hk
  match k, hk2 with
  | 0, _ =>
    refine ⟨_, _, rfl, by simp, ⟨rfl, by show (bstr a).size ≤ _; rw [bstr_size]; exact ha⟩, fun j u hu => ?_⟩
    match j, hu with
    | 0, hu => rw [show (0 * Rp.str.sz + 0) = 0 from rfl, add_nilT]; exact (cell_of_row _ _ 0 _ _ _ (heap_alloc_new w _)).trans hu
  | 1, _ =>
    refine ⟨_, _, rfl, by simp, ⟨rfl, by show (bstr b).size ≤ _; rw [bstr_size]; exact hb⟩, fun j u hu => ?_⟩
    match j, hu with
    | 0, hu =>
      rw [show (⟨w.heap.size, 0, none⟩ : Addr).add (1 * Rp.str.sz + 0) = ⟨w.heap.size, 1, none⟩ from by unfold Addr.add; simp [Rp.str]]
      exact (cell_of_row _ _ 1 _ _ _ (heap_alloc_new w _)).trans hu
theorem textsFault_two (a b : List UInt8) : textsFault [bstr a, bstr b] = if txB a b = true then 0 else 2 := by
  by_cases h : a.length ≤ 20000 ∧ b.length ≤ 20000
  · rw [if_pos (show txB a b = true from decide_eq_true h), textsFault_good (fun s hs => by
      simp only [List.mem_cons, List.not_mem_nil, or_false] at hs
      rcases hs with rfl | rfl <;> rw [bstr_size]
      · exact h.1
      · exact h.2)]
  · rw [if_neg (by unfold txB; rw [decide_eq_false h]; decide)]
    by_cases h1 : a.length ≤ 20000
    · exact textsFault_bad (k := 1) (by simp) (by simp [bstr_size]; omega)
    · exact textsFault_bad (k := 0) (by simp) (by simp [bstr_size]; omega)
set_option maxRecDepth 100000 in
set_option maxHeartbeats 1000000 in
theorem askTwo_any (a b : List UInt8) (n : Int) (w : World) (ha : a.length ≤ maxLen) (hb : b.length ≤ maxLen) : Calls Try.prog 44 #[.string (bstr a), .string (bstr b), .int .i64 n] w fun e w' => e = .returned (.int .i64 (askF a b n)) ∧ w' = w := by
  unfold maxLen at ha hb
  have hs1 : (bstr a).size = a.length := rfl
  have hs2 : (bstr b).size = b.length := rfl
  have HI : Hid (∀ w, Calls Try.prog 37 #[.int .i64 n, .int .i64 1, .int .i64 10] w fun e w' => e = .returned (.bool (isSh n)) ∧ w = w') := Lib.hid (fun w => within_any n 1 10 w)
  by_cases h1 : a.length ≤ 20000
  · have d1 : ¬ (20000 : Int) < (a.length : Int) := by omega
    have d1' : decide ((20000 : Int) < (a.length : Int)) = false := decide_eq_false d1
    by_cases h2 : b.length ≤ 20000
    · have d2 : ¬ (20000 : Int) < (b.length : Int) := by omega
      have ht : txB a b = true := decide_eq_true ⟨h1, h2⟩
      cases hn : isSh n with
      | true =>
        have HA : Hid (askF a b n = 0) := Lib.hid (by rw [askF, if_pos ht, if_pos hn])
        clear ht
        go_enter Try.func44, Try.ntmps44
        go_wp2_with (at_builtin; fail)
        refine (HI.out _).mono ?_
        rintro e w1 ⟨rfl, rfl⟩
        rw [hn]
        go_wp2_with fail
        go_ret
        exact ⟨by rw [HA.out]; rfl, rfl⟩
      | false =>
        have HA : Hid (askF a b n = 1) := Lib.hid (by rw [askF, if_pos ht, if_neg (by rw [hn]; decide)])
        clear ht
        go_enter Try.func44, Try.ntmps44
        go_wp2_with (at_builtin; fail)
        refine (HI.out _).mono ?_
        rintro e w1 ⟨rfl, rfl⟩
        rw [hn]
        go_wp2_with fail
        go_ret
        exact ⟨by rw [HA.out]; rfl, rfl⟩
    · have d2 : (20000 : Int) < (b.length : Int) := by omega
      have HA : Hid (askF a b n = 2) := Lib.hid (by rw [askF, if_neg (by unfold txB; rw [decide_eq_false (fun h => h2 h.2)]; decide)])
      go_enter Try.func44, Try.ntmps44
      go_wp2_with fail
      go_ret
      exact ⟨by rw [HA.out]; rfl, rfl⟩
  · have d1 : (20000 : Int) < (a.length : Int) := by omega
    have HA : Hid (askF a b n = 2) := Lib.hid (by rw [askF, if_neg (by unfold txB; rw [decide_eq_false (fun h => h1 h.1)]; decide)])
    go_enter Try.func44, Try.ntmps44
    go_wp2_with fail
    go_ret
    exact ⟨by rw [HA.out]; rfl, rfl⟩
theorem shL_read {t : List UInt8} {n : Nat} {w : World} {v : Value} {B : Nat} (h : w.ownsRow B 27 1 v (shL t n).length ((shL t n).map u64V)) : (Rp.sl (Rp.int .u64)).ok w (· < w.heap.size) [v] (shL t n) :=
  Rp.int_own (k := .u64) (n := (shL t n).length) (B := B) (e := 27) h (fun x hx => by
    have hr := shL_range hx
    simp [Lit.wf, IntKind.min, IntKind.max, IntKind.signed, IntKind.bits]; omega) (fun g hg => (h.lt g hg).2)
/-- A ratio and a fault are returned. -/
def RPost (q : Nat × Nat) (f : Int) (w : World) (e : Ending) (w' : World) : Prop := e = .returned (.tuple #[pairV q, .int .i64 f]) ∧ Below w.heap.size w w'
theorem results_row2 {P : Program} {fn : Func} {p u : Tmp} {ty : TypeId} (h : fn.results = #[.cell p ty, .tmp u]) (tmps : Array Value) (w : World) (g : Nat) (t : TypeId) (cs : List Value) (d : TypeDesc)
    (hp : tmps.getD p undef = .pointer (some ⟨g, 0, none⟩)) (hg : Blk w g t cs)
    (hu : P.underlying ty = some d) (hd : (match d with | .struct _ | .array _ _ => true | _ => false) = true) (hi : (P.info? ty).map (·.size) = some cs.toArray.size) :
    (results fn tmps).run P w = .ok (.tuple #[.agg cs.toArray, tmps.getD u undef]) w := by
  rw [results_cell_tmp h, hp]
  simp only [asAddr, Sem.run_pure, Result.andThen_ok, run_loadVar_row w g t ty cs.toArray (0, 0) d hg hu hd hi]
theorem askF_cases (a b : List UInt8) (n : Int) : (askF a b n = 0 ∧ txB a b = true ∧ isSh n = true) ∨ (askF a b n = 1 ∧ txB a b = true ∧ isSh n = false) ∨ (askF a b n = 2 ∧ txB a b = false) := by
  unfold askF
  cases h1 : txB a b with
  | false => exact .inr (.inr ⟨rfl, rfl⟩)
  | true =>
    cases h2 : isSh n with
    | false => exact .inr (.inl ⟨rfl, rfl, rfl⟩)
    | true => exact .inl ⟨rfl, rfl, rfl⟩
end Go.Proofs.Ytllbklnljmgppaa
