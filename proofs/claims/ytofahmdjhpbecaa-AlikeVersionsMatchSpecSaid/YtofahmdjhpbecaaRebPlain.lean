/-
  'Rebuilt' of both packages: pieces put together, or the error.
-/
import Derived.Test.YtofahmdjhpbecaaProg
import Derived.Test.YtofahmdjhpbecaaDelta
import Derived.Test.YtofahmdjhpbecaaCand
namespace Go.Proofs.Ytofahmdjhpbecaa
open Go.RowKit
set_option linter.unusedVariables false
set_option linter.unusedSimpArgs false

/-- The form of a piece with m bytes of its own. -/
def cpGood (frm n : Int) (m : Nat) : Prop := (0 < n ∧ m = 0) ∨ (n = 0 ∧ frm = 0 ∧ 0 < m)
instance (frm n : Int) (m : Nat) : Decidable (cpGood frm n m) := by unfold cpGood; infer_instance
def cpF (frm n : Int) (m : Nat) : Int := if cpGood frm n m then 0 else 3
def cpB (frm n : Int) (m : Nat) : Bool := decide (cpGood frm n m)

set_option maxRecDepth 100000 in
set_option maxHeartbeats 1000000 in
theorem checkCopy_any (frm n : Int) (A : Option Addr) (m c : Nat) (w : World) (hm : m ≤ 9223372036854775807) :
    Calls Try.prog 64 #[.agg #[.int .i64 frm, .int .i64 n, .slice A m c]] w fun e w' => e = .returned (.int .i64 (cpF frm n m)) ∧ w' = w.alloc (.cells #[.int .i64 frm, .int .i64 n, .slice A m c] 93) := by
  have HM := Lib.hid hm
  clear hm
  by_cases hn : n < 0
  · have hv : cpF frm n m = 3 := if_neg (by unfold cpGood; omega)
    have HV := Lib.hid hv
    have b1 : (n != 0) = true := by rw [bne_iff_ne]; omega
    have b2 : (n == 0) = false := by rw [beq_eq_false_iff_ne]; omega
    by_cases h0 : m = 0
    · subst h0
      clear hv
      go_enter Try.func64, Try.ntmps64
      go_wp2
      go_ret
      exact ⟨by rw [HV.out]; rfl, rfl⟩
    · have b3 : ((m : Int) == 0) = false := by rw [beq_eq_false_iff_ne]; omega
      clear hv
      go_enter Try.func64, Try.ntmps64
      go_wp2
      go_ret
      exact ⟨by rw [HV.out]; rfl, rfl⟩
  · by_cases hp : 0 < n
    · have b1 : (n != 0) = true := by rw [bne_iff_ne]; omega
      have b2 : (n == 0) = false := by rw [beq_eq_false_iff_ne]; omega
      by_cases h0 : m = 0
      · subst h0
        have hv : cpF frm n 0 = 0 := if_pos (by unfold cpGood; omega)
        have HV := Lib.hid hv
        clear hv
        go_enter Try.func64, Try.ntmps64
        go_wp2
        go_ret
        exact ⟨by rw [HV.out]; rfl, rfl⟩
      · have hv : cpF frm n m = 3 := if_neg (by unfold cpGood; omega)
        have HV := Lib.hid hv
        have b3 : ((m : Int) == 0) = false := by rw [beq_eq_false_iff_ne]; omega
        clear hv
        go_enter Try.func64, Try.ntmps64
        go_wp2
        go_ret
        exact ⟨by rw [HV.out]; rfl, rfl⟩
    · obtain rfl : n = 0 := by omega
      by_cases hf : frm = 0
      · subst hf
        by_cases h0 : m = 0
        · subst h0
          have hv : cpF 0 0 0 = 3 := if_neg (by unfold cpGood; omega)
          have HV := Lib.hid hv
          clear hv
          go_enter Try.func64, Try.ntmps64
          go_wp2
          go_ret
          exact ⟨by rw [HV.out]; rfl, rfl⟩
        · have hv : cpF 0 0 m = 0 := if_pos (by unfold cpGood; omega)
          have HV := Lib.hid hv
          have h1 : 0 < m := by omega
          clear hv
          go_enter Try.func64, Try.ntmps64
          go_wp2
          go_ret
          exact ⟨by rw [HV.out]; rfl, rfl⟩
      · have hv : cpF frm 0 m = 3 := if_neg (by unfold cpGood; omega)
        have HV := Lib.hid hv
        have b3 : (frm == 0) = false := by rw [beq_eq_false_iff_ne]; exact hf
        clear hv
        go_enter Try.func64, Try.ntmps64
        go_wp2
        go_ret
        exact ⟨by rw [HV.out]; rfl, rfl⟩

set_option maxRecDepth 100000 in
set_option maxHeartbeats 1000000 in
theorem isCopy_any (frm n : Int) (A : Option Addr) (m c : Nat) (w : World) (hm : m ≤ 9223372036854775807) :
    Calls Try.prog 65 #[.agg #[.int .i64 frm, .int .i64 n, .slice A m c]] w fun e w' => e = .returned (.bool (cpB frm n m)) ∧ w' = w.alloc (.cells #[.int .i64 frm, .int .i64 n, .slice A m c] 93) := by
  have HM := Lib.hid hm
  clear hm
  by_cases hn : n < 0
  · have hv : cpB frm n m = false := decide_eq_false (by unfold cpGood; omega)
    have HV := Lib.hid hv
    have b1 : (n != 0) = true := by rw [bne_iff_ne]; omega
    have b2 : (n == 0) = false := by rw [beq_eq_false_iff_ne]; omega
    by_cases h0 : m = 0
    · subst h0
      clear hv
      go_enter Try.func65, Try.ntmps65
      go_wp2
      go_ret
      exact ⟨by rw [HV.out]; rfl, rfl⟩
    · have b3 : ((m : Int) == 0) = false := by rw [beq_eq_false_iff_ne]; omega
      clear hv
      go_enter Try.func65, Try.ntmps65
      go_wp2
      go_ret
      exact ⟨by rw [HV.out]; rfl, rfl⟩
  · by_cases hp : 0 < n
    · have b1 : (n != 0) = true := by rw [bne_iff_ne]; omega
      have b2 : (n == 0) = false := by rw [beq_eq_false_iff_ne]; omega
      by_cases h0 : m = 0
      · subst h0
        have hv : cpB frm n 0 = true := decide_eq_true (by unfold cpGood; omega)
        have HV := Lib.hid hv
        clear hv
        go_enter Try.func65, Try.ntmps65
        go_wp2
        go_ret
        exact ⟨by rw [HV.out]; rfl, rfl⟩
      · have hv : cpB frm n m = false := decide_eq_false (by unfold cpGood; omega)
        have HV := Lib.hid hv
        have b3 : ((m : Int) == 0) = false := by rw [beq_eq_false_iff_ne]; omega
        clear hv
        go_enter Try.func65, Try.ntmps65
        go_wp2
        go_ret
        exact ⟨by rw [HV.out]; rfl, rfl⟩
    · obtain rfl : n = 0 := by omega
      by_cases hf : frm = 0
      · subst hf
        by_cases h0 : m = 0
        · subst h0
          have hv : cpB 0 0 0 = false := decide_eq_false (by unfold cpGood; omega)
          have HV := Lib.hid hv
          clear hv
          go_enter Try.func65, Try.ntmps65
          go_wp2
          go_ret
          exact ⟨by rw [HV.out]; rfl, rfl⟩
        · have hv : cpB 0 0 m = true := decide_eq_true (by unfold cpGood; omega)
          have HV := Lib.hid hv
          have h1 : 0 < m := by omega
          clear hv
          go_enter Try.func65, Try.ntmps65
          go_wp2
          go_ret
          exact ⟨by rw [HV.out]; rfl, rfl⟩
      · have hv : cpB frm 0 m = false := decide_eq_false (by unfold cpGood; omega)
        have HV := Lib.hid hv
        have b3 : (frm == 0) = false := by rw [beq_eq_false_iff_ne]; exact hf
        clear hv
        go_enter Try.func65, Try.ntmps65
        go_wp2
        go_ret
        exact ⟨by rw [HV.out]; rfl, rfl⟩



-- THE LOOPS
/-- The first fault of the pieces by themselves. -/
def rbChk (bl : Nat) : List Cp → Int
  | [] => 0
  | c :: r => if cpGood c.frm c.n c.bs.length then (if c.frm < 0 ∨ (bl : Int) < c.frm ∨ (bl : Int) - c.frm < c.n then 1 else rbChk bl r) else 3
def rbTotal (l : List Cp) : Nat := (l.map fun c => c.n.toNat + c.bs.length).sum
def rbOut (base : List UInt8) (l : List Cp) : List UInt8 := l.flatMap fun c => (base.drop c.frm.toNat).take c.n.toNat ++ c.bs
def rbFault (base : List UInt8) (l : List Cp) : Int := if 3000 < base.length ∨ 3000 < l.length then 2 else if rbChk base.length l ≠ 0 then rbChk base.length l else if 3000 < rbTotal l then 2 else 0
def rbRes (base : List UInt8) (l : List Cp) : List UInt8 := if rbFault base l = 0 then rbOut base l else []
def RbPost (base : List UInt8) (l : List Cp) (w : World) (e : Ending) (w' : World) : Prop :=
  ∃ v, e = .returned (.tuple #[v, .int .i64 (rbFault base l)]) ∧ (Rp.sl Rp.u8).ok w' (· < w'.heap.size) [v] (rbRes base l) ∧ Below w.heap.size w w'
theorem rbPost_bad {base : List UInt8} {l : List Cp} {w w' : World} {f : Int} (hf : rbFault base l = f) (h0 : f ≠ 0) (h : Below w.heap.size w w') : RbPost base l w (.returned (.tuple #[.slice none 0 0, .int .i64 f])) w' :=
  ⟨_, by rw [hf], by rw [rbRes, hf, if_neg h0]; exact Rp.sl_nil _ _ _, h⟩
theorem rbPost_good {base : List UInt8} {l : List Cp} {w w' : World} {v : Value} {B e n : Nat} (hf : rbFault base l = 0) (hown : w'.ownsRow B e 1 v n ((rbOut base l).map fun b => .int .u8 b.toNat)) (h : Below w.heap.size w w') :
    RbPost base l w (.returned (.tuple #[v, .int .i64 0])) w' :=
  ⟨_, by rw [hf], by rw [rbRes, hf, if_pos rfl]; exact Rp.u8_own hown (fun g hg => (hown.lt g hg).2), h⟩
theorem rbChk_form {bl k : Nat} {l : List Cp} (h : k < l.length) (h1 : ¬ cpGood l[k].frm l[k].n l[k].bs.length) : rbChk bl (l.drop k) = 3 := by
  rw [List.drop_eq_getElem_cons h, rbChk, if_neg h1]
theorem rbChk_range {bl k : Nat} {l : List Cp} (h : k < l.length) (h1 : cpGood l[k].frm l[k].n l[k].bs.length) (h2 : l[k].frm < 0 ∨ (bl : Int) < l[k].frm ∨ (bl : Int) - l[k].frm < l[k].n) : rbChk bl (l.drop k) = 1 := by
  rw [List.drop_eq_getElem_cons h, rbChk, if_pos h1, if_pos h2]
theorem rbChk_next {bl k : Nat} {l : List Cp} (h : k < l.length) (h1 : cpGood l[k].frm l[k].n l[k].bs.length) (h2 : ¬ (l[k].frm < 0 ∨ (bl : Int) < l[k].frm ∨ (bl : Int) - l[k].frm < l[k].n)) : rbChk bl (l.drop k) = rbChk bl (l.drop (k + 1)) := by
  rw [List.drop_eq_getElem_cons h, rbChk, if_pos h1, if_neg h2]
theorem rbChk_end {bl k : Nat} {l : List Cp} (h : l.length ≤ k) : rbChk bl (l.drop k) = 0 := by rw [List.drop_of_length_le h]; rfl
theorem rbTotal_succ {l : List Cp} {k : Nat} (h : k < l.length) : rbTotal (l.take (k + 1)) = rbTotal (l.take k) + (l[k].n.toNat + l[k].bs.length) := by
  unfold rbTotal
  rw [List.take_succ_eq_append_getElem h, List.map_append, List.sum_append]; simp
theorem rbOut_succ {base : List UInt8} {l : List Cp} {k : Nat} (h : k < l.length) : rbOut base (l.take (k + 1)) = rbOut base (l.take k) ++ ((base.drop l[k].frm.toNat).take l[k].n.toNat ++ l[k].bs) := by
  unfold rbOut
  rw [List.take_succ_eq_append_getElem h, List.flatMap_append]; simp
theorem rbTotal_le {l : List Cp} {k : Nat} : rbTotal (l.take k) ≤ rbTotal l := by
  conv => rhs; rw [← List.take_append_drop k l]
  unfold rbTotal
  rw [List.map_append, List.sum_append]; omega
theorem cp_fits {l : List Cp} (h : (Rp.sl cpRp).fits l) {k : Nat} (hk : k < l.length) : l[k].bs.length ≤ 140737488351232 := (h.2 _ (List.getElem_mem hk)).2.2.1


end Go.Proofs.Ytofahmdjhpbecaa
