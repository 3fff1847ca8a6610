/-
  'SamePackage' of the reference at two packages that read the same; a package as an argument, with its bulk.
-/
import Derived.Test.YtbafnemcdhdagaaDoorProg
import Derived.Test.YtbafnemcdhdagaaDoorEqPk
import Derived.Test.YtbafnemcdhdagaaDoorBulk
namespace Go.Proofs.YtbafnemcdhdagaaDoor
open Go.RowKit
set_option linter.unusedVariables false
set_option linter.unusedSimpArgs false

set_option maxRecDepth 100000 in
set_option maxHeartbeats 1000000 in
theorem samePack_any (n : List UInt8) (v1 v2 : Value) (l : List Ent) (w : World) (h1 : (Rp.sl entRp).ok w (· < w.heap.size) [v1] l) (h2 : (Rp.sl entRp).ok w (· < w.heap.size) [v2] l) :
    Calls Tryd.prog 25 #[.agg #[.string (bstr n), v1], .agg #[.string (bstr n), v2]] w fun e w' => e = .returned (.bool true) ∧ Below w.heap.size w w' := by
  obtain ⟨A, c, rfl, hl1, hc1, _⟩ := Rp.sl_open h1
  obtain ⟨B, d, rfl, hl2, hc2, _⟩ := Rp.sl_open h2
  have ha := (Below.refl w.heap.size w).alloc (Nat.le_refl _) (.cells #[.string (bstr n), .slice A l.length c] 55)
  have hb := ha.alloc ha.size (.cells #[.string (bstr n), .slice B l.length d] 55)
  have H1 := Lib.hid (Rp.ext _ h1 hb)
  have H2 := Lib.hid (Rp.ext _ h2 hb)
  have HB := Lib.hid hb
  clear h1 h2 ha hb
  go_enter Tryd.func25, Tryd.ntmps25
  go_wp2_with fail
  refine (eqEnts_any _ _ l l _ _ _ H1.out H2.out).mono ?_
  rintro e w2 ⟨rfl, nq, rfl⟩
  have hd : decide (l = l) = true := decide_eq_true rfl
  go_wp2_with fail
  go_ret
  exact ⟨rfl, below_drewN HB.out nq⟩

structure PkR where
  name : List UInt8
  ents : List Ent
deriving Inhabited
def pkRp : Rp PkR := (Rp.pair Rp.str (Rp.sl entRp)).via fun r => (bstr r.name, r.ents)
theorem pk_open {w : World} {S : Nat → Prop} {us : List Value} {c : PkR} (h : pkRp.ok w S us c) : ∃ v, us = [.string (bstr c.name), v] ∧ c.name.length ≤ maxLen ∧ (Rp.sl entRp).ok w S [v] c.ents := by
  obtain ⟨_, _, rfl, ⟨rfl, h1⟩, h2⟩ := h
  obtain ⟨v, rfl⟩ := List.length_eq_one_iff.1 ((Rp.sl entRp).len h2)
  exact ⟨v, rfl, h1, h2⟩
def entBulk (x : Ent) : Nat := x.path.length
def pkBulk (p : PkR) : Nat := (p.ents.map entBulk).sum
def fileBulk (x : FileR) : Nat := x.path.length
theorem opensB_bytes : OpensB Tryd.prog 114 (Rp.sl Rp.u8) (fun _ => 0) := (opens_sl Tryd.underlying114 (by kernel_rfl) (by decide) (of_decide_eq_true (by kernel_rfl)) (opens_u8 Tryd.underlying5)).bulk
theorem opens_file : OpensB Tryd.prog 116 fileRp fileBulk := by
  refine opensB_via (B := fun p : ByteArray × List UInt8 => p.1.size) _ (fun p => ⟨p.1.data.toList, p.2⟩) (fun p => by rw [bstr_eq]) ?_
  refine opensB_struct Tryd.underlying116 (by kernel_rfl) ?_
  refine opensFB_cons (B := fun s => s.size) (C := fun _ => 0) (by rfl) (by kernel_rfl) (opensB_str Tryd.underlying9) ?_ (fun _ _ => Nat.le_refl _)
  exact opensFB_one (by rfl) (by kernel_rfl) opensB_bytes
theorem opens_files : OpensB Tryd.prog 56 (Rp.sl fileRp) (fun l => (l.map fileBulk).sum) := opensB_sl Tryd.underlying56 (by kernel_rfl) (by decide) (of_decide_eq_true (by kernel_rfl)) opens_file
theorem opens_ent : OpensB Tryd.prog 119 entRp entBulk := by
  refine opensB_via (B := fun p : ByteArray × Int × ByteArray => p.1.size) _ (fun p => ⟨p.1.data.toList, p.2.1, p.2.2.data.toList⟩) (fun p => by rw [bstr_eq, bstr_eq]) ?_
  refine opensB_struct Tryd.underlying119 (by kernel_rfl) ?_
  refine opensFB_cons (B := fun s => s.size) (C := fun _ => 0) (by rfl) (by kernel_rfl) (opensB_str Tryd.underlying9) ?_ (fun _ _ => Nat.le_refl _)
  refine opensFB_cons (B := fun _ => 0) (C := fun _ => 0) (by rfl) (by kernel_rfl) (opens_int Tryd.underlying3).bulk ?_ (fun _ _ => Nat.le_refl _)
  exact opensFB_one (by rfl) (by kernel_rfl) (opens_str Tryd.underlying9).bulk
theorem opens_ents : OpensB Tryd.prog 53 (Rp.sl entRp) (fun l => (l.map entBulk).sum) := opensB_sl Tryd.underlying53 (by kernel_rfl) (by decide) (of_decide_eq_true (by kernel_rfl)) opens_ent
theorem opens_pk : OpensB Tryd.prog 55 pkRp pkBulk := by
  refine opensB_via (B := fun p : ByteArray × List Ent => (p.2.map entBulk).sum) _ (fun p => ⟨p.1.data.toList, p.2⟩) (fun p => by rw [bstr_eq]) ?_
  refine opensB_struct Tryd.underlying55 (by kernel_rfl) ?_
  refine opensFB_cons (B := fun _ => 0) (C := fun l => (l.map entBulk).sum) (by rfl) (by kernel_rfl) (opens_str Tryd.underlying9).bulk ?_ (fun _ _ => by dsimp only; omega)
  exact opensFB_one (by rfl) (by kernel_rfl) opens_ents
theorem mem_sum {α : Type} (f : α → Nat) {m : Nat} : ∀ {l : List α}, (l.map f).sum ≤ m → ∀ x ∈ l, f x ≤ m
  | a :: l, h, x, hx => by
    rw [List.map_cons, List.sum_cons] at h
    rcases List.mem_cons.1 hx with rfl | hx
    · omega
    · exact mem_sum f (by omega) x hx
end Go.Proofs.YtbafnemcdhdagaaDoor
