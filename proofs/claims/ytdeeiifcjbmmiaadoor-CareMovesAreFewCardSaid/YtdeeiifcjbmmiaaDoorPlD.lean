/-
  The places of chapter 11: what they answer; plain words (the walks are in Places and RefPl).
-/
import Derived.Test.YtdeeiifcjbmmiaaDoorCmpS
import Derived.Sort.OwnSorted
import Derived.Laws.OwnMore
namespace Go.Proofs.YtdeeiifcjbmmiaaDoor
open Go.RowKit Go.Sort
set_option linter.unusedVariables false
set_option linter.unusedSimpArgs false

theorem site_at {w : World} {S : Nat → Prop} {v : Value} {l : List Site} (h : (Rp.sl siteRp).ok w S [v] l) {k : Nat} (hk : k < l.length) :
    ∃ ad c, v = .slice (some ad) l.length c ∧ S ad.block ∧ w.cell? (ad.add (k * 3)) = some (.string (bstr l[k].name)) ∧ w.cell? ⟨(ad.add (k * 3)).block, (ad.add (k * 3)).off + 1, none⟩ = some (.int .i64 l[k].weight) ∧
      w.cell? ⟨(ad.add (k * 3)).block, (ad.add (k * 3)).off + 2, none⟩ = some (.int .i64 l[k].room) ∧ l[k].name.length ≤ maxLen := by
  obtain ⟨A, c, rfl, _⟩ := Rp.sl_open h
  obtain ⟨ad, us, rfl, _, hb, hu, hcell⟩ := Rp.sl_at h hk
  obtain ⟨rfl, hz1⟩ := site_open hu
  have c0 := hcell 0 _ rfl
  have c1 := hcell 1 _ rfl
  have c2 := hcell 2 _ rfl
  rw [add_fld _ _ _ (by omega)] at c1 c2
  exact ⟨ad, c, rfl, hb, c0, c1, c2, hz1⟩
theorem sb_flat_len (l : List Sb) : (l.flatMap sbCells).length = l.length * 3 := flat_len (f := sbCells) (sz := 3) (fun _ => rfl) l
def mkSb (x : Site) (h : x.name.length ≤ 1000) : Sb := ⟨x, h⟩
theorem own_blwP {w w' : World} {B : Nat} {e : TypeId} {size n : Nat} {v : Value} {xs : List Value} (h : w.ownsRow B e size v n xs) (hb : Below w.heap.size w w') : w'.ownsRow B e size v n xs :=
  h.kept (row := none) ⟨hb.os, hb.tape, hb.output, hb.size, fun k hk _ => hb.block k hk⟩ (by cases hg : v.ownBlock <;> simp)
theorem own_baseP {w : World} {B B' : Nat} {e : TypeId} {size n : Nat} {v : Value} {xs : List Value} (h : w.ownsRow B e size v n xs) (hB : B' ≤ B) : w.ownsRow B' e size v n xs := by
  refine ⟨h.1, ?_⟩
  rcases h.2 with hn | ⟨g, cap, cur, e1, hb, rest⟩
  · exact .inl hn
  · exact .inr ⟨g, cap, cur, e1, Nat.le_trans hB hb, rest⟩
def toSb (x : Site) : Sb := if h : x.name.length ≤ 1000 then mkSb x h else default
theorem below_tr2 {B : Nat} {w a b : World} (h1 : Below B w a) (h2 : Below a.heap.size a b) (hB : B ≤ a.heap.size) : Below B w b :=
  ⟨h2.os.trans h1.os, h2.tape.trans h1.tape, h2.output.trans h1.output, Nat.le_trans h1.size h2.size, fun k hk => (h2.block k (by omega)).trans (h1.block k hk)⟩
def sbs (l : List Site) : List Sb := l.map toSb
theorem toSb_val {x : Site} (h : x.name.length ≤ 1000) : (toSb x).1 = x := by unfold toSb; rw [dif_pos h]; rfl
theorem sbs_val {l : List Site} (h : ∀ x ∈ l, x.name.length ≤ 1000) : (sbs l).map (·.1) = l := by
  unfold sbs
  rw [List.map_map]
  conv => rhs; rw [← List.map_id l]
  exact List.map_congr_left fun x hx => toSb_val (h x hx)
theorem sbs_flat {l : List Site} (h : ∀ x ∈ l, x.name.length ≤ 1000) : (sbs l).flatMap sbCells = l.flatMap siteCells := by
  conv => rhs; rw [← sbs_val h, List.flatMap_map]
  rfl
theorem sbs_rise {l : List Site} (h : ∀ x ∈ l, x.name.length ≤ 1000) (hs : l.Pairwise (fun a b => slt a.name b.name = true)) : RiseS (sbs l) := by
  unfold RiseS sbs
  rw [List.pairwise_map]
  exact hs.imp_of_mem fun ha hb hab => by rw [toSb_val (h _ ha), toSb_val (h _ hb)]; exact hab
theorem nm_len40 {t : List UInt8} (h : isNm t = true) : t.length ≤ 40 := by
  unfold isNm at h
  rw [Bool.and_eq_true, Bool.and_eq_true, decide_eq_true_iff, decide_eq_true_iff] at h
  exact h.1.2
/-- The sites of an item. -/
def plL (l : List Site) (item : List UInt8) (many : Nat) : List (List UInt8) := ((insAll item (sbs l)).take many).map (·.1.name)
theorem insAll_len (item : List UInt8) (l : List Sb) (h : RiseS l) : (insAll item l).length = l.length := (insAll_ord l h).1.length_eq
def PlPost (l : List Site) (item : List UInt8) (many : Nat) (w : World) (e : Ending) (w' : World) : Prop :=
  ∃ v, e = .returned v ∧ w'.ownsRow w.heap.size 9 1 v (plL l item many).length ((plL l item many).map fun t => .string (bstr t)) ∧ Below w.heap.size w w'
theorem string_infoP : (Tryd.prog.info? 9).map (fun i => (i.zero, i.size, i.bytes)) = some (some (.string (bstr [])), 1, 16) := by kernel_rfl
end Go.Proofs.YtdeeiifcjbmmiaaDoor
