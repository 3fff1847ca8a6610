/-
  The mixings of a number, of both packages; signatures, plainly.
-/
import Derived.Test.YtnkdcmibafjplaaGreatDoorProg
import Derived.Test.YtnkdcmibafjplaaGreatDoorShAll
import Derived.Test.YtnkdcmibafjplaaGreatDoorBlkR
namespace Go.Proofs.YtnkdcmibafjplaaGreatDoor
open Go.RowKit
set_option linter.unusedVariables false
set_option linter.unusedSimpArgs false

def mixS (z k c : Int) : Int := IntKind.u64.wrap (bits BinOp.xor IntKind.u64 z (z / k) * c)
/-- The i-th mixing of a number. -/
def mixI (x : Int) (i : Nat) : Int :=
  bits BinOp.xor IntKind.u64 (mixS (mixS (IntKind.u64.wrap (x + IntKind.u64.wrap ((i + 1) * 11400714819323198485))) 1073741824 13787848793156543929) 134217728 10723151780598845931)
    (mixS (mixS (IntKind.u64.wrap (x + IntKind.u64.wrap ((i + 1) * 11400714819323198485))) 1073741824 13787848793156543929) 134217728 10723151780598845931 / 2147483648)
theorem mixI_lo (x : Int) (i : Nat) : 0 ≤ mixI x i := (bits_within .xor .u64 _ _).1
theorem mixI_hi (x : Int) (i : Nat) : mixI x i ≤ 18446744073709551615 := (bits_within .xor .u64 _ _).2
/-! ### Mixed -/
def mdF (i : Int) : Int := if 0 ≤ i ∧ i ≤ 127 then 0 else 1
def mdX (x i : Int) : Int := if 0 ≤ i ∧ i ≤ 127 then mixI x i.toNat else 0
/-! ### Signatures, plainly -/
def minL (l : List Int) (i : Nat) : Int := l.foldl (fun m x => min m (mixI x i)) 18446744073709551615
theorem minL_succ {l : List Int} {k : Nat} (h : k < l.length) (i : Nat) : minL (l.take (k + 1)) i = min (minL (l.take k) i) (mixI l[k] i) := by
  unfold minL
  rw [List.take_succ_eq_append_getElem h, List.foldl_append]; rfl
theorem min_lo {a b : Int} (h1 : 0 ≤ a) (h2 : 0 ≤ b) : 0 ≤ min a b := by omega
theorem minL_lo (l : List Int) (i : Nat) : 0 ≤ minL l i := by
  suffices ∀ (m : Int), 0 ≤ m → 0 ≤ l.foldl (fun m x => min m (mixI x i)) m from this _ (by decide)
  induction l with
  | nil => exact fun m h => h
  | cons x l ih => exact fun m h => ih _ (min_lo h (mixI_lo x i))
theorem minL_hi (l : List Int) (i : Nat) : minL l i ≤ 18446744073709551615 := by
  suffices ∀ (m : Int), m ≤ 18446744073709551615 → l.foldl (fun m x => min m (mixI x i)) m ≤ 18446744073709551615 from this _ (by decide)
  induction l with
  | nil => exact fun m h => h
  | cons x l ih => exact fun m h => ih _ (show min m (mixI x i) ≤ _ from Int.le_trans (Int.min_le_left m (mixI x i)) h)
def sgL (l : List Int) (k : Nat) : List Int := (List.range k).map (minL l)
theorem sgL_len (l : List Int) (k : Nat) : (sgL l k).length = k := by simp [sgL]
theorem sgL_succ (l : List Int) (k : Nat) : sgL l (k + 1) = sgL l k ++ [minL l k] := by simp [sgL, List.range_succ]
def isSg (k : Int) : Bool := decide (1 ≤ k ∧ k ≤ 128)
def sgF (t : List UInt8) (n k : Int) : Int := if t.length ≤ 20000 then (if isSh n = true ∧ isSg k = true then 0 else 1) else 2
def sgO (t : List UInt8) (n k : Int) : List Int := if sgF t n k = 0 then sgL (shL t n.toNat) k.toNat else []
theorem sgO_range {t : List UInt8} {n k : Int} : ∀ x ∈ sgO t n k, 0 ≤ x ∧ x ≤ 18446744073709551615 := by
  intro x hx
  unfold sgO at hx
  split at hx
  · unfold sgL at hx
    obtain ⟨i, _, rfl⟩ := List.mem_map.1 hx
    exact ⟨minL_lo _ _, minL_hi _ _⟩
  · cases hx
theorem sgO_len {t : List UInt8} {n k : Int} : (sgO t n k).length ≤ 128 := by
  unfold sgO
  split
  · rename_i h
    rw [sgL_len]
    unfold sgF at h
    split at h
    · split at h
      · rename_i h2
        have : 1 ≤ k ∧ k ≤ 128 := of_decide_eq_true h2.2
        omega
      · cases h
    · cases h
  · exact Nat.zero_le _
def SgPost (t : List UInt8) (n k : Int) (w : World) (e : Ending) (w' : World) : Prop :=
  ∃ v, e = .returned (.tuple #[v, .int .i64 (sgF t n k)]) ∧ w'.ownsRow w.heap.size 95 1 v (sgO t n k).length ((sgO t n k).map u64V) ∧ Below w.heap.size w w'
theorem blk_own_row {w : World} {g B n : Nat} {e : TypeId} {cs : List Value} (h : Blk w g e cs) (hB : B ≤ g) (hn : n ≤ maxLen) (hl : cs.length = n) : w.ownsRow B e 1 (.slice (some ⟨g, 0, none⟩) n n) n cs :=
  ⟨by omega, .inr ⟨g, n, cs.toArray, rfl, hB, h, Nat.le_refl _, hn, by simp [hl], List.take_of_length_le (by rw [List.toList_toArray]; omega)⟩⟩
theorem sgO_read {t : List UInt8} {n k : Int} {w : World} {v : Value} {B : Nat} (h : w.ownsRow B 95 1 v (sgO t n k).length ((sgO t n k).map u64V)) : (Rp.sl (Rp.int .u64)).ok w (· < w.heap.size) [v] (sgO t n k) :=
  Rp.int_own (k := .u64) (n := (sgO t n k).length) (B := B) (e := 95) h (fun x hx => by
    have hr := sgO_range x hx
    simp [Lit.wf, IntKind.min, IntKind.max, IntKind.signed, IntKind.bits]; omega) (fun g hg => (h.lt g hg).2)
theorem madeCells_oneR (z : Value) (hz : z.cells = #[z]) (n : Nat) : madeCells z.cells n = (List.replicate n z).toArray := by
  rw [hz]
  apply Array.ext
  · simp [madeCells]
  · intro i h1 h2
    simp [madeCells, Nat.mod_one]
theorem run_make1R {P : Program} (w : World) (t e : TypeId) (z : Value) (bytes : Nat) (ht : P.underlying t = some (.slice e)) (hinfo : (P.info? e).map (fun i => (i.zero, i.size, i.bytes)) = some (some z, 1, bytes)) (hz : z.cells = #[z]) (n : Nat) (hn : bytes * n ≤ 281474976710656) (h63 : n ≤ 1000000000) :
    (Instr.makeSlice t (.int .i64 n) (.int .i64 n)).run P w = .ok (.slice (some ⟨w.heap.size, 0, none⟩) n n) (w.alloc (.cells (List.replicate n z).toArray e)) := by
  obtain ⟨i, hi, hz', h1, h2⟩ := info_parts hinfo
  have hb : (i.bytes : Int) * (n : Int) ≤ 281474976710656 := by rw [h2]; have : ((bytes * n : Nat) : Int) ≤ 281474976710656 := by omega
                                                                rwa [Int.natCast_mul] at this
  have := run_make (P := P) w t e i z ht hi hz' .i64 .i64 n n (by omega) (Int.le_refl _) hb (by omega)
  rw [this, h1, Int.toNat_natCast, Nat.mul_one, madeCells_oneR z hz]
end Go.Proofs.YtnkdcmibafjplaaGreatDoor
