/-
  Words for rows of strings and the order of strings: plain facts.
-/
import Derived.Test.YtnkdcmibafjplaaGreatDoorProg
import Derived.Test.YtnkdcmibafjplaaGreatDoorStr
import Derived.Test.YtnkdcmibafjplaaGreatDoorList
namespace Go.Proofs.YtnkdcmibafjplaaGreatDoor
open Go.RowKit
set_option linter.unusedVariables false

def strs (l : List (List UInt8)) : List Value := l.map fun b => .string (bstr b)
theorem strs_app (a b : List (List UInt8)) : strs (a ++ b) = strs a ++ strs b := by simp [strs]
/-- 'a <= b', 'a < b' of strings. -/
def sle (a b : List UInt8) : Bool := Op.bytesLess a b || a == b
def slt (a b : List UInt8) : Bool := Op.bytesLess a b
theorem sle_eq (a b : List UInt8) : (Op.bytesLess (bstr a).toList (bstr b).toList || (bstr a).toList == (bstr b).toList) = sle a b := by rw [bstr_toList, bstr_toList]; rfl
theorem slt_eq (a b : List UInt8) : Op.bytesLess (bstr a).toList (bstr b).toList = slt a b := by rw [bstr_toList, bstr_toList]; rfl
theorem own_below {w w' : World} {B : Nat} {e : TypeId} {size n : Nat} {v : Value} {xs : List Value} (h : w.ownsRow B e size v n xs) (hb : Below w.heap.size w w') : w'.ownsRow B e size v n xs :=
  h.kept (below_grown hb) (by cases hg : v.ownBlock <;> simp)
end Go.Proofs.YtnkdcmibafjplaaGreatDoor
