/-
  Viewers: how they read.
-/
import Derived.Test.YtfgglpjmkahphaaGreatDoorConc
namespace Go.Proofs.YtfgglpjmkahphaaGreatDoor
open Go.RowKit
set_option linter.unusedVariables false
set_option linter.unusedSimpArgs false

structure Vwr where
  who : List UInt8
  house : Bool
deriving Inhabited
def vwrCells (x : Vwr) : List Value := [.string (bstr x.who), .bool x.house]
def vwrRp : Rp Vwr := (Rp.pair Rp.str Rp.bool).via fun r => (bstr r.who, r.house)
theorem vwr_open {w : World} {S : Nat → Prop} {us : List Value} {c : Vwr} (h : vwrRp.ok w S us c) : us = vwrCells c ∧ c.who.length ≤ maxLen := by
  obtain ⟨_, _, rfl, ⟨rfl, h1⟩, h2⟩ := h
  cases h2
  exact ⟨rfl, h1⟩
theorem opens_vwr : Opens Tryz.prog 25 vwrRp := by
  refine opens_via _ (fun (p : ByteArray × Bool) => ⟨p.1.data.toList, p.2⟩) (fun p => by rw [bstr_eq]) ?_
  refine opens_struct Tryz.underlying25 (by kernel_rfl) ?_
  refine opensF_cons (by rfl) (by kernel_rfl) (opens_str Tryz.underlying9) ?_
  exact opensF_one (by rfl) (by kernel_rfl) (opens_bool Tryz.underlying4)
end Go.Proofs.YtfgglpjmkahphaaGreatDoor
