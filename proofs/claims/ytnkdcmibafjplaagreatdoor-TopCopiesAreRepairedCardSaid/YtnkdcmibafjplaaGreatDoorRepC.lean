/-
  Repairs: how costs and repairs read; where they open.
-/
import Derived.Test.YtnkdcmibafjplaaGreatDoorProg
import Derived.Test.YtnkdcmibafjplaaGreatDoorOpen
import Derived.Test.YtnkdcmibafjplaaGreatDoorRows11
import Derived.Test.YtnkdcmibafjplaaGreatDoorHeld
namespace Go.Proofs.YtnkdcmibafjplaaGreatDoor
open Go.RowKit
set_option linter.unusedVariables false

structure Cst where
  frm : List UInt8
  to : List UInt8
  cost : Int
deriving Inhabited
def cstCells (x : Cst) : List Value := [.string (bstr x.frm), .string (bstr x.to), .int .i64 x.cost]
def cstRp : Rp Cst := (Rp.pair Rp.str (Rp.pair Rp.str (Rp.int .i64))).via fun r => (bstr r.frm, bstr r.to, r.cost)
theorem cst_open {w : World} {S : Nat → Prop} {us : List Value} {c : Cst} (h : cstRp.ok w S us c) : us = cstCells c ∧ c.frm.length ≤ maxLen ∧ c.to.length ≤ maxLen ∧ (Lit.int .i64 c.cost).wf = true := by
  obtain ⟨_, _, rfl, ⟨rfl, h1⟩, ⟨_, _, rfl, ⟨rfl, h2⟩, ⟨rfl, h3⟩⟩⟩ := h
  exact ⟨rfl, h1, h2, h3⟩
theorem cst_at {w : World} {S : Nat → Prop} {v : Value} {l : List Cst} (h : (Rp.sl cstRp).ok w S [v] l) {k : Nat} (hk : k < l.length) :
    ∃ ad c, v = .slice (some ad) l.length c ∧ S ad.block ∧ w.cell? (ad.add (k * 3)) = some (.string (bstr l[k].frm)) ∧ w.cell? ⟨(ad.add (k * 3)).block, (ad.add (k * 3)).off + 1, none⟩ = some (.string (bstr l[k].to)) ∧
      w.cell? ⟨(ad.add (k * 3)).block, (ad.add (k * 3)).off + 2, none⟩ = some (.int .i64 l[k].cost) ∧ l[k].frm.length ≤ 9223372036854775807 ∧ l[k].to.length ≤ 9223372036854775807 ∧ (Lit.int .i64 l[k].cost).wf = true := by
  obtain ⟨A, c, rfl, _⟩ := Rp.sl_open h
  obtain ⟨ad, us, rfl, _, hb, hu, hcell⟩ := Rp.sl_at h hk
  obtain ⟨rfl, hz1, hz2, hz3⟩ := cst_open hu
  have c0 := hcell 0 _ rfl
  have c1 := hcell 1 _ rfl
  have c2 := hcell 2 _ rfl
  rw [add_fld _ _ _ (by omega)] at c1 c2
  unfold maxLen at hz1 hz2
  exact ⟨ad, c, rfl, hb, c0, c1, c2, by omega, by omega, hz3⟩
theorem opens_cst : Opens Tryz.prog 49 cstRp := by
  refine opens_via _ (fun (p : ByteArray × ByteArray × Int) => ⟨p.1.data.toList, p.2.1.data.toList, p.2.2⟩) (fun p => by rw [bstr_eq, bstr_eq]) ?_
  refine opens_struct Tryz.underlying49 (by kernel_rfl) ?_
  refine opensF_cons (by rfl) (by kernel_rfl) (opens_str Tryz.underlying9) ?_
  refine opensF_cons (by rfl) (by kernel_rfl) (opens_str Tryz.underlying9) ?_
  exact opensF_one (by rfl) (by kernel_rfl) (opens_int Tryz.underlying3)
theorem opens_csts : Opens Tryz.prog 46 (Rp.sl cstRp) := opens_sl Tryz.underlying46 (by kernel_rfl) (by decide) (of_decide_eq_true (by kernel_rfl)) opens_cst

structure Rpr where
  item : List UInt8
  frm : List UInt8
  to : List UInt8
  rnd : Int
deriving Inhabited
def rprCells (x : Rpr) : List Value := [.string (bstr x.item), .string (bstr x.frm), .string (bstr x.to), .int .i64 x.rnd]
def rprRp : Rp Rpr := (Rp.pair Rp.str (Rp.pair Rp.str (Rp.pair Rp.str (Rp.int .i64)))).via fun r => (bstr r.item, bstr r.frm, bstr r.to, r.rnd)
theorem rpr_open {w : World} {S : Nat → Prop} {us : List Value} {c : Rpr} (h : rprRp.ok w S us c) : us = rprCells c ∧ c.item.length ≤ maxLen ∧ c.frm.length ≤ maxLen ∧ c.to.length ≤ maxLen ∧ (Lit.int .i64 c.rnd).wf = true := by
  obtain ⟨_, _, rfl, ⟨rfl, h0⟩, ⟨_, _, rfl, ⟨rfl, h1⟩, ⟨_, _, rfl, ⟨rfl, h2⟩, ⟨rfl, h3⟩⟩⟩⟩ := h
  exact ⟨rfl, h0, h1, h2, h3⟩
theorem rpr_at {w : World} {S : Nat → Prop} {v : Value} {l : List Rpr} (h : (Rp.sl rprRp).ok w S [v] l) {k : Nat} (hk : k < l.length) :
    ∃ ad c, v = .slice (some ad) l.length c ∧ S ad.block ∧ w.cell? (ad.add (k * 4)) = some (.string (bstr l[k].item)) ∧ w.cell? ⟨(ad.add (k * 4)).block, (ad.add (k * 4)).off + 1, none⟩ = some (.string (bstr l[k].frm)) ∧
      w.cell? ⟨(ad.add (k * 4)).block, (ad.add (k * 4)).off + 2, none⟩ = some (.string (bstr l[k].to)) ∧ w.cell? ⟨(ad.add (k * 4)).block, (ad.add (k * 4)).off + 3, none⟩ = some (.int .i64 l[k].rnd) ∧ l[k].item.length ≤ 9223372036854775807 ∧ l[k].frm.length ≤ 9223372036854775807 ∧ l[k].to.length ≤ 9223372036854775807 ∧ (Lit.int .i64 l[k].rnd).wf = true := by
  obtain ⟨A, c, rfl, _⟩ := Rp.sl_open h
  obtain ⟨ad, us, rfl, _, hb, hu, hcell⟩ := Rp.sl_at h hk
  obtain ⟨rfl, hz1, hz2, hz3, hz4⟩ := rpr_open hu
  have c0 := hcell 0 _ rfl
  have c1 := hcell 1 _ rfl
  have c2 := hcell 2 _ rfl
  have c3 := hcell 3 _ rfl
  rw [add_fld _ _ _ (by omega)] at c1 c2 c3
  unfold maxLen at hz1 hz2 hz3
  exact ⟨ad, c, rfl, hb, c0, c1, c2, c3, by omega, by omega, by omega, hz4⟩
theorem opens_rpr : Opens Tryz.prog 106 rprRp := by
  refine opens_via _ (fun (p : ByteArray × ByteArray × ByteArray × Int) => ⟨p.1.data.toList, p.2.1.data.toList, p.2.2.1.data.toList, p.2.2.2⟩) (fun p => by rw [bstr_eq, bstr_eq, bstr_eq]) ?_
  refine opens_struct Tryz.underlying106 (by kernel_rfl) ?_
  refine opensF_cons (by rfl) (by kernel_rfl) (opens_str Tryz.underlying9) ?_
  refine opensF_cons (by rfl) (by kernel_rfl) (opens_str Tryz.underlying9) ?_
  refine opensF_cons (by rfl) (by kernel_rfl) (opens_str Tryz.underlying9) ?_
  exact opensF_one (by rfl) (by kernel_rfl) (opens_int Tryz.underlying3)
theorem opens_rprs : Opens Tryz.prog 55 (Rp.sl rprRp) := opens_sl Tryz.underlying55 (by kernel_rfl) (by decide) (of_decide_eq_true (by kernel_rfl)) opens_rpr
end Go.Proofs.YtnkdcmibafjplaaGreatDoor
