/-
  slices.Sort at strings, of a row that the call owns: increasing, with the same strings.
-/
import Derived.Test.YtdeeiifcjbmmiaaGreatDoorProg
import Derived.Test.YtdeeiifcjbmmiaaGreatDoorBase
import Derived.Shelf.Sort.Plain
import Derived.Shelf.Slices.In.SortNone
import Derived.Sort.OwnSorted
namespace Go.Proofs.YtdeeiifcjbmmiaaGreatDoor
open Go.RowKit Go.Sort
set_option linter.unusedVariables false
set_option linter.unusedSimpArgs false

def shSortS_ren : Go.Shelf.Ren := ⟨fun | 125 => 49 | 128 => 73 | 129 => 74 | 190 => 29 | 258 => 48 | 302 => 64 | 303 => 65 | 304 => 66 | 305 => 67 | 306 => 68 | 307 => 69 | 308 => 70 | 309 => 71 | 310 => 72 | 329 => 94 | 330 => 95 | 333 => 93 | 334 => 96 | 335 => 97 | 336 => 98 | 344 => 114 | n => n, fun | 0 => 0 | 3 => 3 | 4 => 4 | 5 => 5 | 9 => 9 | 31 => 23 | 46 => 77 | 51 => 108 | 53 => 110 | 131 => 105 | 182 => 99 | 183 => 100 | 218 => 124 | 222 => 128 | 228 => 143 | 229 => 144 | n => n, fun | n => n⟩
theorem shSortS : Lays.n190 Tryz.prog shSortS_ren := {
  mixed := by kernel_rfl,
  f125 := Tryz.func49.trans (congrArg some (by kernel_rfl)),
  f128 := Tryz.func73.trans (congrArg some (by kernel_rfl)),
  f129 := Tryz.func74.trans (congrArg some (by kernel_rfl)),
  f190 := Tryz.func29.trans (congrArg some (by kernel_rfl)),
  f258 := Tryz.func48.trans (congrArg some (by kernel_rfl)),
  f302 := Tryz.func64.trans (congrArg some (by kernel_rfl)),
  f303 := Tryz.func65.trans (congrArg some (by kernel_rfl)),
  f304 := Tryz.func66.trans (congrArg some (by kernel_rfl)),
  f305 := Tryz.func67.trans (congrArg some (by kernel_rfl)),
  f306 := Tryz.func68.trans (congrArg some (by kernel_rfl)),
  f307 := Tryz.func69.trans (congrArg some (by kernel_rfl)),
  f308 := Tryz.func70.trans (congrArg some (by kernel_rfl)),
  f309 := Tryz.func71.trans (congrArg some (by kernel_rfl)),
  f310 := Tryz.func72.trans (congrArg some (by kernel_rfl)),
  f329 := Tryz.func94.trans (congrArg some (by kernel_rfl)),
  f330 := Tryz.func95.trans (congrArg some (by kernel_rfl)),
  f333 := Tryz.func93.trans (congrArg some (by kernel_rfl)),
  f334 := Tryz.func96.trans (congrArg some (by kernel_rfl)),
  f335 := Tryz.func97.trans (congrArg some (by kernel_rfl)),
  f336 := Tryz.func98.trans (congrArg some (by kernel_rfl)),
  f344 := Tryz.func114.trans (congrArg some (by kernel_rfl)),
  t0 := Tryz.underlying0,
  a0 := Tryz.isAgg0,
  z0 := Tryz.sizeOf0,
  v0 := Tryz.zeroValue0,
  t3 := Tryz.underlying3,
  a3 := Tryz.isAgg3,
  z3 := Tryz.sizeOf3,
  v3 := Tryz.zeroValue3,
  t4 := Tryz.underlying4,
  a4 := Tryz.isAgg4,
  z4 := Tryz.sizeOf4,
  v4 := Tryz.zeroValue4,
  t5 := Tryz.underlying5,
  a5 := Tryz.isAgg5,
  z5 := Tryz.sizeOf5,
  v5 := Tryz.zeroValue5,
  t9 := Tryz.underlying9,
  a9 := Tryz.isAgg9,
  z9 := Tryz.sizeOf9,
  v9 := Tryz.zeroValue9,
  t31 := Tryz.underlying23,
  a31 := Tryz.isAgg23,
  z31 := Tryz.sizeOf23,
  v31 := Tryz.zeroValue23,
  t46 := Tryz.underlying77,
  a46 := Tryz.isAgg77,
  z46 := Tryz.sizeOf77,
  v46 := Tryz.zeroValue77,
  t51 := Tryz.underlying108,
  a51 := Tryz.isAgg108,
  z51 := Tryz.sizeOf108,
  v51 := Tryz.zeroValue108,
  t53 := Tryz.underlying110,
  a53 := Tryz.isAgg110,
  z53 := Tryz.sizeOf110,
  v53 := Tryz.zeroValue110,
  t131 := Tryz.underlying105,
  a131 := Tryz.isAgg105,
  z131 := Tryz.sizeOf105,
  v131 := Tryz.zeroValue105,
  t182 := Tryz.underlying99,
  a182 := Tryz.isAgg99,
  z182 := Tryz.sizeOf99,
  v182 := Tryz.zeroValue99,
  t183 := Tryz.underlying100,
  a183 := Tryz.isAgg100,
  z183 := Tryz.sizeOf100,
  v183 := Tryz.zeroValue100,
  t218 := Tryz.underlying124,
  a218 := Tryz.isAgg124,
  z218 := Tryz.sizeOf124,
  v218 := Tryz.zeroValue124,
  t222 := Tryz.underlying128,
  a222 := Tryz.isAgg128,
  z222 := Tryz.sizeOf128,
  v222 := Tryz.zeroValue128,
  t228 := Tryz.underlying143,
  a228 := Tryz.isAgg143,
  z228 := Tryz.sizeOf143,
  v228 := Tryz.zeroValue143,
  t229 := Tryz.underlying144,
  a229 := Tryz.isAgg144,
  z229 := Tryz.sizeOf144,
  v229 := Tryz.zeroValue144 }

def strV (s : List UInt8) : Value := .string (bstr s)
theorem sortS_any (v : Value) (ss : List (List UInt8)) (B : Nat) (w : World) (hO : w.ownsRow B 9 1 v ss.length (ss.map strV)) (hsz : ss.length ≤ 1000000) :
    Calls Tryz.prog 29 #[v] w fun e w' => e = .returned (.tuple #[]) ∧ ∃ ts : List (List UInt8), ts.Perm ss ∧ ts.Pairwise (fun a b => Op.bytesLess b a = false) ∧ w'.ownsRow B 9 1 v ts.length (ts.map strV) ∧ w.grownBy w' v.ownBlock := by
  have hO' := hO
  by_cases h0 : ss.length = 0
  · obtain rfl : ss = [] := List.length_eq_zero_iff.1 h0
    have hv : ∃ p c, v = .slice p 0 c := by
      rcases hO.2 with ⟨rfl, _⟩ | ⟨g, cap, cur, rfl, _⟩
      · exact ⟨_, _, rfl⟩
      · exact ⟨_, _, rfl⟩
    obtain ⟨p, c, rfl⟩ := hv
    refine (Any.slices_Sort_string_none shSortS p c w).mono ?_
    rintro e w' ⟨rfl, n, rfl⟩
    exact ⟨rfl, [], List.Perm.refl _, List.Pairwise.nil, hO', ⟨rfl, rfl, rfl, Nat.le_refl _, fun k _ _ => rfl⟩⟩
  · rcases hO.2 with ⟨_, hn⟩ | ⟨g, cap, cur, rfl, hb, hg, h1, h2, h3, h4⟩
    · omega
    · have hlt : g < w.heap.size := (Array.getElem?_eq_some_iff.1 hg).1
      rw [Nat.mul_one] at h4
      have hH : Holds encStr w g 0 ss.toArray := holds_of_block hg h4
      refine (Any.slices_Sort_string shSortS g 0 cap ss w hH hlt (by omega)).mono ?_
      rintro e w' ⟨rfl, n, os, rfl⟩
      have hp : (ss.mergeSort fun x y => decide (x ≤ y)).Perm ss := List.mergeSort_perm _ _
      have hl := hp.length_eq
      refine ⟨rfl, ss.mergeSort fun x y => decide (x ≤ y), hp, ?_, ?_, grownBy_sorted _⟩
      · have h := List.pairwise_mergeSort (le := fun x y : List UInt8 => decide (x ≤ y)) (fun a b c h1 h2 => by simp only [decide_eq_true_eq] at *; exact List.le_trans h1 h2) (fun a b => by simp only [Bool.or_eq_true, decide_eq_true_eq]; exact List.le_total a b) ss
        exact h.imp (fun {a b} h => by
          rw [decide_eq_true_eq] at h
          rw [bytesLess_eq]
          exact decide_eq_false (fun e => absurd h (List.not_le.2 e)))
      · have := ownsRow_sorted (n := n) (os := os) hl hb hg h1 h2 h3
        rw [hl]
        exact this
end Go.Proofs.YtdeeiifcjbmmiaaGreatDoor
