/-
  A package as an argument, with its bulk; the table of powers out of a row's listed variables.
-/
import Derived.Test.YtgfacedfndcgdaaGreatDoorProg
import Derived.Test.YtgfacedfndcgdaaGreatDoorSamePq
import Derived.Test.YtgfacedfndcgdaaGreatDoorBulk
import Derived.Test.YtgfacedfndcgdaaGreatDoorManI
import Derived.Test.YtgfacedfndcgdaaGreatDoorRows
import Derived.Stop.LaidErr
import Derived.Lib.LaidTab
import Derived.Lay
import Derived.LaidMore
import Derived.ProofKit
import Derived.OpenShut
import Derived.Stop.Joined
import Derived.SizedLaws
import Derived.Deep.DeepWitnessRowRef
namespace Go.Proofs.YtgfacedfndcgdaaGreatDoor
open Go.RowKit Go.ChangeShapes Go.WideShapes Go.ChangeAt
set_option linter.unusedVariables false
set_option linter.unusedSimpArgs false

theorem ti_of {W : World} (h : laidMetH Tryz.prog Rows.careManifestsMatchSpecUptoRow.laid W) : TI W := by
  rw [MakeChecks.laidMetH_plain _ _ _ (by kernel_rfl)] at h
  have h3 := h.tail.tail
  have e : (Rows.laid_internal_strconv_uint64pow10 : DataW Unit) = Lib.tabData .u64 Lib.pow10Tab := by rfl
  rw [e] at h3
  exact Lib.tabIs_of_head (g := 1) (t := 116) (e := 75) (n := 20) (by kernel_rfl) (by kernel_rfl) Tryz.underlying116 Tryz.underlying75 (by kernel_rfl) (by kernel_rfl) h3
structure PkR where
  name : List UInt8
  ents : List Ent
deriving Inhabited
def pkRp : Rp PkR := (Rp.pair Rp.str (Rp.sl entRp)).via fun r => (bstr r.name, r.ents)
theorem pk_open {w : World} {S : Nat → Prop} {us : List Value} {c : PkR} (h : pkRp.ok w S us c) : ∃ v, us = [.string (bstr c.name), v] ∧ c.name.length ≤ maxLen ∧ (Rp.sl entRp).ok w S [v] c.ents := by
  obtain ⟨_, _, rfl, ⟨rfl, h1⟩, h2⟩ := h
  obtain ⟨v, rfl⟩ := List.length_eq_one_iff.1 ((Rp.sl entRp).len h2)
  exact ⟨v, rfl, h1, h2⟩
def entBulk (x : Ent) : Nat := x.path.length
def pkBulk (p : PkR) : Nat := (p.ents.map entBulk).sum
theorem opens_ent : OpensB Tryz.prog 36 entRp entBulk := by
  refine opensB_via (B := fun p : ByteArray × Int × ByteArray => p.1.size) _ (fun p => ⟨p.1.data.toList, p.2.1, p.2.2.data.toList⟩) (fun p => by rw [bstr_eq, bstr_eq]) ?_
  refine opensB_struct Tryz.underlying36 (by kernel_rfl) ?_
  refine opensFB_cons (B := fun s => s.size) (C := fun _ => 0) (by rfl) (by kernel_rfl) (opensB_str Tryz.underlying9) ?_ (fun _ _ => Nat.le_refl _)
  refine opensFB_cons (B := fun _ => 0) (C := fun _ => 0) (by rfl) (by kernel_rfl) (opens_int Tryz.underlying3).bulk ?_ (fun _ _ => Nat.le_refl _)
  exact opensFB_one (by rfl) (by kernel_rfl) (opens_str Tryz.underlying9).bulk
theorem opens_ents : OpensB Tryz.prog 22 (Rp.sl entRp) (fun l => (l.map entBulk).sum) := opensB_sl Tryz.underlying22 (by kernel_rfl) (by decide) (of_decide_eq_true (by kernel_rfl)) opens_ent
theorem opens_pk : OpensB Tryz.prog 24 pkRp pkBulk := by
  refine opensB_via (B := fun p : ByteArray × List Ent => (p.2.map entBulk).sum) _ (fun p => ⟨p.1.data.toList, p.2⟩) (fun p => by rw [bstr_eq]) ?_
  refine opensB_struct Tryz.underlying24 (by kernel_rfl) ?_
  refine opensFB_cons (B := fun _ => 0) (C := fun l => (l.map entBulk).sum) (by rfl) (by kernel_rfl) (opens_str Tryz.underlying9).bulk ?_ (fun _ _ => by dsimp only; omega)
  exact opensFB_one (by rfl) (by kernel_rfl) opens_ents
theorem mem_sum {α : Type} (f : α → Nat) {m : Nat} : ∀ {l : List α}, (l.map f).sum ≤ m → ∀ x ∈ l, f x ≤ m
  | a :: l, h, x, hx => by
    rw [List.map_cons, List.sum_cons] at h
    rcases List.mem_cons.1 hx with rfl | hx
    · omega
    · exact mem_sum f (by omega) x hx
end Go.Proofs.YtgfacedfndcgdaaGreatDoor
