/-
  slices.Sort at []uint64, of a row that the call owns: increasing, with the same numbers.
-/
import Derived.Test.YtnkdcmibafjplaaGreatDoorU64e
import Derived.Test.YtnkdcmibafjplaaGreatDoorBase
import Derived.Sort.WalkA14
import Derived.Sort.OwnSortedInts
import Derived.Sort.LotD7
namespace Go.Proofs.YtnkdcmibafjplaaGreatDoor
open Go.RowKit Go.Sort
set_option linter.unusedVariables false
set_option linter.unusedSimpArgs false

def bitsLen__ren : Go.Shelf.Ren := ⟨fun | 125 => 78 | 128 => 121 | 129 => 122 | n => n, fun | 3 => 3 | 4 => 4 | 5 => 5 | 9 => 9 | 46 => 154 | 51 => 201 | 53 => 95 | n => n, fun | n => n⟩
theorem bitsLen_ : Lays.n125 Tryz.prog bitsLen__ren := {
  mixed := by kernel_rfl,
  f125 := Tryz.func78.trans (congrArg some (by kernel_rfl)),
  f128 := Tryz.func121.trans (congrArg some (by kernel_rfl)),
  f129 := Tryz.func122.trans (congrArg some (by kernel_rfl)),
  t3 := Tryz.underlying3,
  a3 := Tryz.isAgg3,
  z3 := Tryz.sizeOf3,
  v3 := Tryz.zeroValue3,
  t4 := Tryz.underlying4,
  a4 := Tryz.isAgg4,
  z4 := Tryz.sizeOf4,
  v4 := Tryz.zeroValue4,
  t5 := Tryz.underlying5,
  a5 := Tryz.isAgg5,
  z5 := Tryz.sizeOf5,
  v5 := Tryz.zeroValue5,
  t9 := Tryz.underlying9,
  a9 := Tryz.isAgg9,
  z9 := Tryz.sizeOf9,
  v9 := Tryz.zeroValue9,
  t46 := Tryz.underlying154,
  a46 := Tryz.isAgg154,
  z46 := Tryz.sizeOf154,
  v46 := Tryz.zeroValue154,
  t51 := Tryz.underlying201,
  a51 := Tryz.isAgg201,
  z51 := Tryz.sizeOf201,
  v51 := Tryz.zeroValue201,
  t53 := Tryz.underlying95,
  a53 := Tryz.isAgg95,
  z53 := Tryz.sizeOf95,
  v53 := Tryz.zeroValue95 }

theorem sort_ok64 : sort_stmt ltInt := sort_holds pdq_ok64
set_option maxRecDepth 100000 in
theorem sort64 (blk off cap : Nat) (d : Array Int) (w : World) (hH : Holds encU w blk off d) (hblk : blk < w.heap.size) (hsz : d.size < 4611686018427387904) :
    Calls Tryz.prog 49 #[.slice (some ⟨blk, off, none⟩) d.size cap] w fun e w' => e = .returned (.tuple #[]) ∧ SW encU w blk off (Sort.sort ltInt d) w' := by
  have HL : ∀ w, Calls Tryz.prog 78 #[.int .u64 (d.size : Int)] w fun e w' => e = .returned (.int .i64 (bitsLen d.size : Nat)) ∧ w' = w := fun w => by
    have h := Any.bits_Len bitsLen_ (d.size : Int) w (by omega) (by omega)
    rwa [Int.toNat_natCast, bitLen_eq _ (by omega)] at h
  have hLen := Lib.hid HL
  clear HL
  have hk : bitsLen d.size ≤ 62 := (bitsLen_le_iff d.size 62).2 (by omega)
  have hp := pdq64 d.size blk off cap d w ⟨hH, hblk⟩ rfl hsz (d.size + 1) 0 d.size (bitsLen d.size) d w (by omega) rfl (SW.start hH) (Nat.zero_le _) (Nat.le_refl _) (by omega) (Or.inl rfl)
  have HP := Lib.hid hp
  have ru : IntKind.u64.wrap (d.size : Int) = (d.size : Int) := by rw [IntKind.wrap_u64]; omega
  clear hp hH
  go_enter Tryz.func49, Tryz.ntmps49
  go_wp2_with (first
    | (go_at_call 78; refine (hLen.out _).mono ?_; rintro e w' ⟨rfl, rfl⟩)
    | (go_at_call 81; refine HP.out.mono ?_; rintro e w2 ⟨rfl, hw2⟩))
  go_end0
  exact ⟨rfl, hw2⟩
/-! ### Of no element -/
theorem insert64_none (p : Option Addr) (cap : Nat) (w : World) : Calls Tryz.prog 124 #[.slice p 0 cap, .int .i64 0, .int .i64 0] w fun e w' => e = .returned (.tuple #[]) ∧ w' = w := by
  go_enter Tryz.func124, Tryz.ntmps124
  go_wp2_with fail
  go_loopw [6] (fun vi wr => vi = .int .i64 1 ∧ wr = w) (fun _ _ => 0)
  case atStart => exact ⟨rfl, rfl⟩
  case round =>
    obtain ⟨rfl, rfl⟩ := hrel
    go_wp2_with fail
    go_end0
    exact ⟨rfl, rfl⟩
theorem pdq64_none (p : Option Addr) (cap : Nat) (l : Int) (w : World) : Calls Tryz.prog 81 #[.slice p 0 cap, .int .i64 0, .int .i64 0, .int .i64 l] w fun e w' => e = .returned (.tuple #[]) ∧ w' = w := by
  go_enter Tryz.func81, Tryz.ntmps81
  go_wp2_with fail
  go_loopw [1, 2, 3, 8, 9] (fun s1 s2 s3 s8 s9 wr => s1 = .int .i64 0 ∧ s2 = .int .i64 0 ∧ s3 = .int .i64 l ∧ s8 = .bool true ∧ s9 = .bool true ∧ wr = w) (fun _ _ _ _ _ _ => 0)
  case atStart => exact ⟨rfl, rfl, rfl, rfl, rfl, rfl⟩
  case round =>
    obtain ⟨rfl, rfl, rfl, rfl, rfl, rfl⟩ := hrel
    go_wp2_with (go_at_call 124; refine (insert64_none _ _ _).mono ?_; rintro e w1 ⟨rfl, rfl⟩)
    (try simp only [Exit.inBlock, Exit.then])
    refine bodyPost_ret (results_none rfl _ _ _) rfl ?_
    exact ⟨rfl, rfl⟩
theorem sort64_none (p : Option Addr) (cap : Nat) (w : World) : Calls Tryz.prog 49 #[.slice p 0 cap] w fun e w' => e = .returned (.tuple #[]) ∧ w' = w := by
  have hLen : ∀ w, Calls Tryz.prog 78 #[.int .u64 0] w fun e w' => e = .returned (.int .i64 (Lib.bitLen 0)) ∧ w' = w := fun w => by
    have h := Any.bits_Len bitsLen_ 0 w (by omega) (by omega)
    exact h
  have HL := Lib.hid hLen
  clear hLen
  generalize (Lib.bitLen 0 : Int) = l at HL
  go_enter Tryz.func49, Tryz.ntmps49
  go_wp2_with (first
    | (go_at_call 78; refine (HL.out _).mono ?_; rintro e w' ⟨rfl, rfl⟩)
    | (go_at_call 81; refine (pdq64_none _ _ _ _).mono ?_; rintro e w2 ⟨rfl, rfl⟩))
  go_end0
  exact ⟨rfl, rfl⟩
/-! ### Of an owned row -/
def u64V (z : Int) : Value := .int .u64 z
theorem holds_of_blockU {w : World} {g : Nat} {cur : Array Value} {e : TypeId} {ss : List Int} (hb : w.heap[g]? = some (.cells cur e (0, 0))) (ht : cur.toList.take ss.length = ss.map u64V) : Holds encU w g 0 ss.toArray := by
  intro j hj
  have hj' : j < ss.length := by simpa using hj
  refine ⟨?_, by simp [World.frozen?, hb]⟩
  have h1 : (cur.toList.take ss.length)[j]? = (ss.map u64V)[j]? := by rw [ht]
  rw [List.getElem?_take_of_lt hj'] at h1
  simp only [World.cell?, hb, Nat.zero_add]
  simp only [Option.isSome_none, Bool.false_eq_true, if_false]
  rw [← Array.getElem?_toList, h1]
  simp [hj', u64V, encU]
theorem heap_sortU {w : World} {g n : Nat} {os : Array Obj} {cur : Array Value} {e : TypeId} {fr : Nat × Nat} (d : Array Int) (hb : w.heap[g]? = some (.cells cur e fr)) :
    (grow (putRow encU (Sort.ahead w n) g 0 d) os).heap[g]? = some (.cells (putCells encU 0 d cur) e fr) := by
  have hg : g < w.heap.size := (Array.getElem?_eq_some_iff.1 hb).1
  rw [heap_grow_old _ _ (by simpa using hg)]
  simp [putRow, mapBlock, Sort.ahead, Array.getElem?_modify, hb, onCells]
theorem grownBy_sortU {w : World} {g n : Nat} {os : Array Obj} (d : Array Int) : w.grownBy (grow (putRow encU (Sort.ahead w n) g 0 d) os) (some g) := by
  refine ⟨rfl, rfl, rfl, by simp, fun k hk hne => ?_⟩
  rw [heap_grow_old _ _ (by simpa using hk)]
  have : g ≠ k := fun e => hne (by rw [e])
  simp [putRow, mapBlock, Sort.ahead, Array.getElem?_modify, this]
theorem take_putCellsU (cur : Array Value) (ts : List Int) (h : ts.length ≤ cur.size) : (putCells encU 0 ts.toArray cur).toList.take ts.length = ts.map u64V := by
  apply List.ext_getElem?
  intro j
  by_cases hj : j < ts.length
  · rw [List.getElem?_take_of_lt hj, Array.getElem?_toList]
    simp [putCells, hj, show j < cur.size by omega, u64V, encU]
  · rw [List.getElem?_take_eq_none (by omega), List.getElem?_eq_none (by simp; omega)]
def srtU (zs : List Int) : List Int := zs.mergeSort fun x y => decide (x ≤ y)
theorem srtU_perm (zs : List Int) : (srtU zs).Perm zs := List.mergeSort_perm _ _
theorem srtU_len (zs : List Int) : (srtU zs).length = zs.length := (srtU_perm zs).length_eq
theorem srtU_mem {zs : List Int} {x : Int} : x ∈ srtU zs ↔ x ∈ zs := (srtU_perm zs).mem_iff
theorem srtU_sorted (zs : List Int) : (srtU zs).Pairwise (· ≤ ·) := by
  have h := List.pairwise_mergeSort (le := fun x y : Int => decide (x ≤ y)) (fun a b c h1 h2 => by simp at *; omega) (fun a b => by simp; omega) zs
  exact h.imp (fun h => by simpa using h)
theorem sortU_any (v : Value) (zs : List Int) (B : Nat) (w : World) (hO : w.ownsRow B 95 1 v zs.length (zs.map u64V)) (hsz : zs.length ≤ 1000000) :
    Calls Tryz.prog 49 #[v] w fun e w' => e = .returned (.tuple #[]) ∧ w'.ownsRow B 95 1 v (srtU zs).length ((srtU zs).map u64V) ∧ w.grownBy w' v.ownBlock := by
  have hO' := hO
  by_cases h0 : zs.length = 0
  · obtain rfl : zs = [] := List.length_eq_zero_iff.1 h0
    have hv : ∃ p c, v = .slice p 0 c := by
      rcases hO.2 with ⟨rfl, _⟩ | ⟨g, cap, cur, rfl, _⟩
      · exact ⟨_, _, rfl⟩
      · exact ⟨_, _, rfl⟩
    obtain ⟨p, c, rfl⟩ := hv
    refine (sort64_none p c w).mono ?_
    rintro e w' ⟨rfl, rfl⟩
    exact ⟨rfl, by rw [show srtU [] = [] by simp [srtU]]; exact hO', ⟨rfl, rfl, rfl, Nat.le_refl _, fun k _ _ => rfl⟩⟩
  · rcases hO.2 with ⟨_, hn⟩ | ⟨g, cap, cur, rfl, hb, hg, h1, h2, h3, h4⟩
    · omega
    · have hlt : g < w.heap.size := (Array.getElem?_eq_some_iff.1 hg).1
      rw [Nat.mul_one] at h4
      have hH : Holds encU w g 0 zs.toArray := holds_of_blockU hg h4
      have hc := sort64 g 0 cap zs.toArray w hH hlt (by simp; omega)
      refine Calls.mono (show Calls Tryz.prog 49 #[.slice (some ⟨g, 0, none⟩) zs.length cap] w _ from hc) ?_
      rintro e w' ⟨rfl, n, os, rfl⟩
      have hS : (Sort.sort ltInt zs.toArray).toList = srtU zs := sortInt_holds sort_ok64 zs
      have hA : Sort.sort ltInt zs.toArray = (srtU zs).toArray := by rw [← hS]
      rw [hA]
      refine ⟨rfl, ?_, grownBy_sortU _⟩
      rw [srtU_len]
      refine ⟨by simp [srtU_len], .inr ⟨g, cap, _, rfl, hb, heap_sortU _ hg, h1, h2, by simp [putCells, h3], ?_⟩⟩
      rw [Nat.mul_one, ← srtU_len zs]
      exact take_putCellsU cur (srtU zs) (by rw [srtU_len, h3]; omega)
end Go.Proofs.YtnkdcmibafjplaaGreatDoor
