/-
  Rights: how they read; what is right of them by themselves; which comes first: plain facts.
-/
import Derived.Test.YtdljgjlkfihjdaaGreatDoorName
import Derived.Test.YtdljgjlkfihjdaaGreatDoorHeld
import Derived.Test.YtdljgjlkfihjdaaGreatDoorWithin
import Derived.Test.YtdljgjlkfihjdaaGreatDoorCmpI
import Derived.Test.YtdljgjlkfihjdaaGreatDoorOpen
import Derived.Sort.Walk0
namespace Go.Proofs.YtdljgjlkfihjdaaGreatDoor
open Go.RowKit
set_option linter.unusedVariables false
set_option linter.unusedSimpArgs false

structure Rgt where
  id : List UInt8
  pre : List UInt8
  frm : Int
  to : Int
  st : Int
  en : Int
  made : Int
  kind : Int
  team : List UInt8
deriving Inhabited
def rgtCells (x : Rgt) : List Value := [.string (bstr x.id), .string (bstr x.pre), .int .i64 x.frm, .int .i64 x.to, .int .i64 x.st, .int .i64 x.en, .int .i64 x.made, .int .i64 x.kind, .string (bstr x.team)]
def rgtRp : Rp Rgt := (Rp.pair Rp.str (Rp.pair Rp.str (Rp.pair (Rp.int .i64) (Rp.pair (Rp.int .i64) (Rp.pair (Rp.int .i64) (Rp.pair (Rp.int .i64) (Rp.pair (Rp.int .i64) (Rp.pair (Rp.int .i64) Rp.str)))))))).via fun r => (bstr r.id, bstr r.pre, r.frm, r.to, r.st, r.en, r.made, r.kind, bstr r.team)
theorem rgt_open {w : World} {S : Nat → Prop} {us : List Value} {c : Rgt} (h : rgtRp.ok w S us c) : us = rgtCells c ∧ c.id.length ≤ maxLen ∧ c.pre.length ≤ maxLen ∧ (Lit.int .i64 c.frm).wf = true ∧ (Lit.int .i64 c.to).wf = true ∧ (Lit.int .i64 c.st).wf = true ∧ (Lit.int .i64 c.en).wf = true ∧ (Lit.int .i64 c.made).wf = true ∧ (Lit.int .i64 c.kind).wf = true ∧ c.team.length ≤ maxLen := by
  obtain ⟨_, _, rfl, ⟨rfl, h0⟩, ⟨_, _, rfl, ⟨rfl, h1⟩, ⟨_, _, rfl, ⟨rfl, h2⟩, ⟨_, _, rfl, ⟨rfl, h3⟩, ⟨_, _, rfl, ⟨rfl, h4⟩, ⟨_, _, rfl, ⟨rfl, h5⟩, ⟨_, _, rfl, ⟨rfl, h6⟩, ⟨_, _, rfl, ⟨rfl, h7⟩, ⟨rfl, h8⟩⟩⟩⟩⟩⟩⟩⟩⟩ := h
  exact ⟨rfl, h0, h1, h2, h3, h4, h5, h6, h7, h8⟩
theorem opens_rgt : Opens Tryz.prog 38 rgtRp := by
  refine opens_via _ (fun (p : ByteArray × ByteArray × Int × Int × Int × Int × Int × Int × ByteArray) => ⟨p.1.data.toList, p.2.1.data.toList, p.2.2.1, p.2.2.2.1, p.2.2.2.2.1, p.2.2.2.2.2.1, p.2.2.2.2.2.2.1, p.2.2.2.2.2.2.2.1, p.2.2.2.2.2.2.2.2.data.toList⟩) (fun p => by rw [bstr_eq, bstr_eq, bstr_eq]) ?_
  refine opens_struct Tryz.underlying38 (by kernel_rfl) ?_
  refine opensF_cons (by rfl) (by kernel_rfl) (opens_str Tryz.underlying9) ?_
  refine opensF_cons (by rfl) (by kernel_rfl) (opens_str Tryz.underlying9) ?_
  refine opensF_cons (by rfl) (by kernel_rfl) (opens_int Tryz.underlying3) ?_
  refine opensF_cons (by rfl) (by kernel_rfl) (opens_int Tryz.underlying3) ?_
  refine opensF_cons (by rfl) (by kernel_rfl) (opens_int Tryz.underlying3) ?_
  refine opensF_cons (by rfl) (by kernel_rfl) (opens_int Tryz.underlying3) ?_
  refine opensF_cons (by rfl) (by kernel_rfl) (opens_int Tryz.underlying3) ?_
  refine opensF_cons (by rfl) (by kernel_rfl) (opens_int Tryz.underlying3) ?_
  exact opensF_one (by rfl) (by kernel_rfl) (opens_str Tryz.underlying9)
/-- What a prefix may be. -/
def isPre (t : List UInt8) : Bool := t.all rowByte && decide ((t.length : Int) ≤ 2100)
def rgRange (r : Rgt) : Bool := withinB r.frm 0 253402300799 && (withinB r.st 0 253402300799 && (withinB r.made 0 253402300799 && (withinB r.to 0 253402300800 && withinB r.en 0 253402300800)))
def rgRest (r : Rgt) : Int :=
  if rgRange r = false then 1 else if r.to ≤ r.frm ∨ r.en ≤ r.st then 8 else if withinB r.kind 1 4 = false then 4 else if (r.team = [] ∧ r.kind = 2) ∨ (r.team ≠ [] ∧ (r.kind = 1 ∨ r.kind = 4)) then 3 else if r.team ≠ [] ∧ isNm r.team = false then 5 else 0
def rgF (r : Rgt) : Int := if isNm r.id = false then 5 else if isPre r.pre = false then 3 else rgRest r
def none1 (r : Rgt) : Int := if r.kind = 4 then 1 else 0
def near (a b : Rgt) : Int := orL [icmp (b.pre.length : Int) (a.pre.length : Int), icmp b.made a.made, icmp (none1 b) (none1 a), scmp a.id b.id]
def nearTop (a b : Rgt) : Int × Int := if rgF a ≠ 0 then (0, rgF a) else if rgF b ≠ 0 then (0, rgF b) else (near a b, 0)
/-- An order: turned round the contrary, and one after another. -/
theorem icmp_neg (x y : Int) : icmp y x = - icmp x y := by
  unfold icmp
  repeat' split
  all_goals omega
theorem scmp_tri (a b : List UInt8) : (scmp a b = -1 ∧ Op.bytesLess a b = true ∧ Op.bytesLess b a = false ∧ a ≠ b) ∨ (scmp a b = 0 ∧ Op.bytesLess a b = false ∧ Op.bytesLess b a = false ∧ a = b) ∨ (scmp a b = 1 ∧ Op.bytesLess a b = false ∧ Op.bytesLess b a = true ∧ a ≠ b) := by
  induction a generalizing b with
  | nil => cases b with
    | nil => exact .inr (.inl ⟨rfl, rfl, rfl, rfl⟩)
    | cons _ _ => exact .inl ⟨rfl, rfl, rfl, by simp⟩
  | cons a x ih => cases b with
    | nil => exact .inr (.inr ⟨rfl, rfl, rfl, by simp⟩)
    | cons b y =>
      have ih := ih y
      unfold scmp at ih ⊢
      rw [Lib.compareBytes, Op.bytesLess, Op.bytesLess]
      by_cases h1 : a < b
      · have h2 : ¬ b < a := fun h => absurd (UInt8.lt_trans h1 h) (UInt8.lt_irrefl _)
        have h3 : a ≠ b := fun e => by subst e; exact UInt8.lt_irrefl _ h1
        left
        rw [if_pos h1]
        refine ⟨rfl, by simp [h1], ?_, by simp [h3]⟩
        simp [h2, Ne.symm h3]
      · by_cases h2 : b < a
        · have h3 : b ≠ a := fun e => by subst e; exact UInt8.lt_irrefl _ h2
          right; right
          rw [if_neg h1, if_pos h2]
          exact ⟨rfl, by simp [h1, Ne.symm h3], by simp [h2], by simp [Ne.symm h3]⟩
        · have h3 : a = b := UInt8.le_antisymm (UInt8.not_lt.1 h2) (UInt8.not_lt.1 h1)
          subst h3
          rw [if_neg h1, if_neg h1]
          simpa [h1] using ih
theorem scmp_neg (a b : List UInt8) : scmp b a = - scmp a b := by
  rcases scmp_tri a b with ⟨h1, h2, h3, h4⟩ | ⟨h1, h2, h3, h4⟩ | ⟨h1, h2, h3, h4⟩
  · rcases scmp_tri b a with ⟨g1, g2, g3, g4⟩ | ⟨g1, g2, g3, g4⟩ | ⟨g1, g2, g3, g4⟩
    · rw [h2] at g3; cases g3
    · exact absurd g4.symm h4
    · (rw [h1, g1]; try rfl)
  · rcases scmp_tri b a with ⟨g1, g2, g3, g4⟩ | ⟨g1, g2, g3, g4⟩ | ⟨g1, g2, g3, g4⟩
    · exact absurd h4.symm g4
    · (rw [h1, g1]; try rfl)
    · exact absurd h4.symm g4
  · rcases scmp_tri b a with ⟨g1, g2, g3, g4⟩ | ⟨g1, g2, g3, g4⟩ | ⟨g1, g2, g3, g4⟩
    · (rw [h1, g1]; try rfl)
    · exact absurd g4.symm h4
    · rw [h3] at g2; cases g2
theorem less_trans {a b c : List UInt8} (h1 : Op.bytesLess a b = true) (h2 : Op.bytesLess b c = true) : Op.bytesLess a c = true := by
  rw [Go.Proofs.bytesLess_eq, decide_eq_true_eq] at *
  exact List.lt_trans h1 h2
def OrdT (x y z : Int) : Prop := x ≤ 0 → y ≤ 0 → z < 0 ∨ (x = 0 ∧ y = 0 ∧ z = 0)
theorem icmp_ordT (a b c : Int) : OrdT (icmp a b) (icmp b c) (icmp a c) := by
  unfold OrdT icmp
  repeat' split
  all_goals omega
theorem icmp_ordR (a b c : Int) : OrdT (icmp b a) (icmp c b) (icmp c a) := by
  unfold OrdT icmp
  repeat' split
  all_goals omega
theorem scmp_ordT (a b c : List UInt8) : OrdT (scmp a b) (scmp b c) (scmp a c) := by
  intro h1 h2
  rcases scmp_tri a b with ⟨p1, p2, _, p4⟩ | ⟨p1, _, _, p4⟩ | ⟨p1, _, _, _⟩
  · rcases scmp_tri b c with ⟨q1, q2, _, q4⟩ | ⟨q1, _, _, q4⟩ | ⟨q1, _, _, _⟩
    · have := less_trans p2 q2
      rcases scmp_tri a c with ⟨r1, _⟩ | ⟨_, r2, _⟩ | ⟨_, r2, _⟩
      · left; rw [r1]; decide
      · rw [this] at r2; cases r2
      · rw [this] at r2; cases r2
    · subst q4; left; rw [p1]; decide
    · omega
  · subst p4
    rcases scmp_tri a c with ⟨q1, _⟩ | ⟨q1, _⟩ | ⟨q1, _⟩
    · left; rw [q1]; decide
    · right; exact ⟨p1, q1, q1⟩
    · omega
  · omega
theorem orL_ordT {x y z : Int} {a b c : List Int} (h : OrdT x y z) (k : OrdT (orL a) (orL b) (orL c)) : OrdT (orL (x :: a)) (orL (y :: b)) (orL (z :: c)) := by
  unfold OrdT at *
  rw [orL, orL, orL]
  split <;> split <;> split <;> omega
theorem orL_negT {x : Int} {a b : List Int} (k : orL b = - orL a) : orL ((-x) :: b) = - orL (x :: a) := by
  rw [orL, orL]
  split <;> split <;> omega
theorem near_neg (a b : Rgt) : near b a = - near a b := by
  unfold near
  rw [icmp_neg (b.pre.length : Int) a.pre.length, icmp_neg b.made a.made, icmp_neg (none1 b) (none1 a), scmp_neg a.id b.id]
  exact orL_negT (orL_negT (orL_negT (orL_negT (by simp [orL]))))
theorem near_ord (a b c : Rgt) : OrdT (near a b) (near b c) (near a c) := by
  unfold near
  exact orL_ordT (icmp_ordR _ _ _) (orL_ordT (icmp_ordR _ _ _) (orL_ordT (icmp_ordR _ _ _) (orL_ordT (scmp_ordT _ _ _) (fun _ _ => .inr ⟨rfl, rfl, rfl⟩))))
theorem orL_range : ∀ {l : List Int}, (∀ x ∈ l, -1 ≤ x ∧ x ≤ 1) → -1 ≤ orL l ∧ orL l ≤ 1
  | [], _ => by simp [orL]
  | x :: l, h => by
    rw [orL]
    split
    · exact orL_range fun y hy => h y (by simp [hy])
    · exact h x (by simp)
theorem near_range (a b : Rgt) : -1 ≤ near a b ∧ near a b ≤ 1 := by
  unfold near
  refine orL_range fun x hx => ?_
  have hi : ∀ p q : Int, -1 ≤ icmp p q ∧ icmp p q ≤ 1 := fun p q => by unfold icmp; split; omega; split <;> omega
  simp only [List.mem_cons, List.not_mem_nil, or_false] at hx
  rcases hx with rfl | rfl | rfl | rfl
  · exact hi _ _
  · exact hi _ _
  · exact hi _ _
  · rcases scmp_tri a.id b.id with ⟨h, _⟩ | ⟨h, _⟩ | ⟨h, _⟩ <;> rw [h] <;> decide
end Go.Proofs.YtdljgjlkfihjdaaGreatDoor
