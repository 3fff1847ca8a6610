/-
  slices.Sort at strings, of a row that the call owns: increasing, with the same strings.
-/
import Derived.Test.YtdeeiifcjbmmiaaDoorProg
import Derived.Test.YtdeeiifcjbmmiaaDoorBase
import Derived.Shelf.Sort.Plain
import Derived.Shelf.Slices.In.SortNone
import Derived.Sort.OwnSorted
namespace Go.Proofs.YtdeeiifcjbmmiaaDoor
open Go.RowKit Go.Sort
set_option linter.unusedVariables false
set_option linter.unusedSimpArgs false

def shSortS_ren : Go.Shelf.Ren := ⟨fun | 125 => 49 | 128 => 73 | 129 => 74 | 190 => 36 | 258 => 48 | 302 => 64 | 303 => 65 | 304 => 66 | 305 => 67 | 306 => 68 | 307 => 69 | 308 => 70 | 309 => 71 | 310 => 72 | 329 => 84 | 330 => 85 | 333 => 83 | 334 => 86 | 335 => 87 | 336 => 88 | 344 => 93 | n => n, fun | 0 => 0 | 3 => 3 | 4 => 4 | 5 => 5 | 9 => 9 | 31 => 23 | 46 => 82 | 51 => 105 | 53 => 107 | 131 => 102 | 182 => 96 | 183 => 97 | 218 => 114 | 222 => 118 | 228 => 121 | 229 => 122 | n => n, fun | n => n⟩
theorem shSortS : Lays.n190 Tryd.prog shSortS_ren := {
  mixed := by kernel_rfl,
  f125 := Tryd.func49.trans (congrArg some (by kernel_rfl)),
  f128 := Tryd.func73.trans (congrArg some (by kernel_rfl)),
  f129 := Tryd.func74.trans (congrArg some (by kernel_rfl)),
  f190 := Tryd.func36.trans (congrArg some (by kernel_rfl)),
  f258 := Tryd.func48.trans (congrArg some (by kernel_rfl)),
  f302 := Tryd.func64.trans (congrArg some (by kernel_rfl)),
  f303 := Tryd.func65.trans (congrArg some (by kernel_rfl)),
  f304 := Tryd.func66.trans (congrArg some (by kernel_rfl)),
  f305 := Tryd.func67.trans (congrArg some (by kernel_rfl)),
  f306 := Tryd.func68.trans (congrArg some (by kernel_rfl)),
  f307 := Tryd.func69.trans (congrArg some (by kernel_rfl)),
  f308 := Tryd.func70.trans (congrArg some (by kernel_rfl)),
  f309 := Tryd.func71.trans (congrArg some (by kernel_rfl)),
  f310 := Tryd.func72.trans (congrArg some (by kernel_rfl)),
  f329 := Tryd.func84.trans (congrArg some (by kernel_rfl)),
  f330 := Tryd.func85.trans (congrArg some (by kernel_rfl)),
  f333 := Tryd.func83.trans (congrArg some (by kernel_rfl)),
  f334 := Tryd.func86.trans (congrArg some (by kernel_rfl)),
  f335 := Tryd.func87.trans (congrArg some (by kernel_rfl)),
  f336 := Tryd.func88.trans (congrArg some (by kernel_rfl)),
  f344 := Tryd.func93.trans (congrArg some (by kernel_rfl)),
  t0 := Tryd.underlying0,
  a0 := Tryd.isAgg0,
  z0 := Tryd.sizeOf0,
  v0 := Tryd.zeroValue0,
  t3 := Tryd.underlying3,
  a3 := Tryd.isAgg3,
  z3 := Tryd.sizeOf3,
  v3 := Tryd.zeroValue3,
  t4 := Tryd.underlying4,
  a4 := Tryd.isAgg4,
  z4 := Tryd.sizeOf4,
  v4 := Tryd.zeroValue4,
  t5 := Tryd.underlying5,
  a5 := Tryd.isAgg5,
  z5 := Tryd.sizeOf5,
  v5 := Tryd.zeroValue5,
  t9 := Tryd.underlying9,
  a9 := Tryd.isAgg9,
  z9 := Tryd.sizeOf9,
  v9 := Tryd.zeroValue9,
  t31 := Tryd.underlying23,
  a31 := Tryd.isAgg23,
  z31 := Tryd.sizeOf23,
  v31 := Tryd.zeroValue23,
  t46 := Tryd.underlying82,
  a46 := Tryd.isAgg82,
  z46 := Tryd.sizeOf82,
  v46 := Tryd.zeroValue82,
  t51 := Tryd.underlying105,
  a51 := Tryd.isAgg105,
  z51 := Tryd.sizeOf105,
  v51 := Tryd.zeroValue105,
  t53 := Tryd.underlying107,
  a53 := Tryd.isAgg107,
  z53 := Tryd.sizeOf107,
  v53 := Tryd.zeroValue107,
  t131 := Tryd.underlying102,
  a131 := Tryd.isAgg102,
  z131 := Tryd.sizeOf102,
  v131 := Tryd.zeroValue102,
  t182 := Tryd.underlying96,
  a182 := Tryd.isAgg96,
  z182 := Tryd.sizeOf96,
  v182 := Tryd.zeroValue96,
  t183 := Tryd.underlying97,
  a183 := Tryd.isAgg97,
  z183 := Tryd.sizeOf97,
  v183 := Tryd.zeroValue97,
  t218 := Tryd.underlying114,
  a218 := Tryd.isAgg114,
  z218 := Tryd.sizeOf114,
  v218 := Tryd.zeroValue114,
  t222 := Tryd.underlying118,
  a222 := Tryd.isAgg118,
  z222 := Tryd.sizeOf118,
  v222 := Tryd.zeroValue118,
  t228 := Tryd.underlying121,
  a228 := Tryd.isAgg121,
  z228 := Tryd.sizeOf121,
  v228 := Tryd.zeroValue121,
  t229 := Tryd.underlying122,
  a229 := Tryd.isAgg122,
  z229 := Tryd.sizeOf122,
  v229 := Tryd.zeroValue122 }

def strV (s : List UInt8) : Value := .string (bstr s)
theorem sortS_any (v : Value) (ss : List (List UInt8)) (B : Nat) (w : World) (hO : w.ownsRow B 9 1 v ss.length (ss.map strV)) (hsz : ss.length ≤ 1000000) :
    Calls Tryd.prog 36 #[v] w fun e w' => e = .returned (.tuple #[]) ∧ ∃ ts : List (List UInt8), ts.Perm ss ∧ ts.Pairwise (fun a b => Op.bytesLess b a = false) ∧ w'.ownsRow B 9 1 v ts.length (ts.map strV) ∧ w.grownBy w' v.ownBlock := by
  have hO' := hO
  by_cases h0 : ss.length = 0
  · obtain rfl : ss = [] := List.length_eq_zero_iff.1 h0
    have hv : ∃ p c, v = .slice p 0 c := by
      rcases hO.2 with ⟨rfl, _⟩ | ⟨g, cap, cur, rfl, _⟩
      · exact ⟨_, _, rfl⟩
      · exact ⟨_, _, rfl⟩
    obtain ⟨p, c, rfl⟩ := hv
    refine (Any.slices_Sort_string_none shSortS p c w).mono ?_
    rintro e w' ⟨rfl, n, rfl⟩
    exact ⟨rfl, [], List.Perm.refl _, List.Pairwise.nil, hO', ⟨rfl, rfl, rfl, Nat.le_refl _, fun k _ _ => rfl⟩⟩
  · rcases hO.2 with ⟨_, hn⟩ | ⟨g, cap, cur, rfl, hb, hg, h1, h2, h3, h4⟩
    · omega
    · have hlt : g < w.heap.size := (Array.getElem?_eq_some_iff.1 hg).1
      rw [Nat.mul_one] at h4
      have hH : Holds encStr w g 0 ss.toArray := holds_of_block hg h4
      refine (Any.slices_Sort_string shSortS g 0 cap ss w hH hlt (by omega)).mono ?_
      rintro e w' ⟨rfl, n, os, rfl⟩
      have hp : (ss.mergeSort fun x y => decide (x ≤ y)).Perm ss := List.mergeSort_perm _ _
      have hl := hp.length_eq
      refine ⟨rfl, ss.mergeSort fun x y => decide (x ≤ y), hp, ?_, ?_, grownBy_sorted _⟩
      · have h := List.pairwise_mergeSort (le := fun x y : List UInt8 => decide (x ≤ y)) (fun a b c h1 h2 => by simp only [decide_eq_true_eq] at *; exact List.le_trans h1 h2) (fun a b => by simp only [Bool.or_eq_true, decide_eq_true_eq]; exact List.le_total a b) ss
        exact h.imp (fun {a b} h => by
          rw [decide_eq_true_eq] at h
          rw [bytesLess_eq]
          exact decide_eq_false (fun e => absurd h (List.not_le.2 e)))
      · have := ownsRow_sorted (n := n) (os := os) hl hb hg h1 h2 h3
        rw [hl]
        exact this
end Go.Proofs.YtdeeiifcjbmmiaaDoor
