/-
  slices.Sort at strings, of a row that the call owns: increasing, with the same strings.
-/
import Derived.Test.YtgbpnghgcffkbaaGreatDoorProg
import Derived.Test.YtgbpnghgcffkbaaGreatDoorBase
import Derived.Shelf.Sort.Plain
import Derived.Shelf.Slices.In.SortNone
import Derived.Sort.OwnSorted
namespace Go.Proofs.YtgbpnghgcffkbaaGreatDoor
open Go.RowKit Go.Sort
set_option linter.unusedVariables false
set_option linter.unusedSimpArgs false

def shSortS_ren : Go.Shelf.Ren := ⟨fun | 125 => 93 | 128 => 142 | 129 => 143 | 190 => 55 | 258 => 97 | 302 => 145 | 303 => 146 | 304 => 147 | 305 => 148 | 306 => 149 | 307 => 150 | 308 => 151 | 309 => 152 | 310 => 153 | 329 => 187 | 330 => 188 | 333 => 191 | 334 => 192 | 335 => 193 | 336 => 194 | 344 => 227 | n => n, fun | 0 => 0 | 3 => 3 | 4 => 4 | 5 => 5 | 9 => 9 | 31 => 84 | 46 => 128 | 51 => 164 | 53 => 166 | 131 => 107 | 182 => 157 | 183 => 158 | 218 => 199 | 222 => 105 | 228 => 230 | 229 => 231 | n => n, fun | n => n⟩
theorem shSortS : Lays.n190 Tryz.prog shSortS_ren := {
  mixed := by kernel_rfl,
  f125 := Tryz.func93.trans (congrArg some (by kernel_rfl)),
  f128 := Tryz.func142.trans (congrArg some (by kernel_rfl)),
  f129 := Tryz.func143.trans (congrArg some (by kernel_rfl)),
  f190 := Tryz.func55.trans (congrArg some (by kernel_rfl)),
  f258 := Tryz.func97.trans (congrArg some (by kernel_rfl)),
  f302 := Tryz.func145.trans (congrArg some (by kernel_rfl)),
  f303 := Tryz.func146.trans (congrArg some (by kernel_rfl)),
  f304 := Tryz.func147.trans (congrArg some (by kernel_rfl)),
  f305 := Tryz.func148.trans (congrArg some (by kernel_rfl)),
  f306 := Tryz.func149.trans (congrArg some (by kernel_rfl)),
  f307 := Tryz.func150.trans (congrArg some (by kernel_rfl)),
  f308 := Tryz.func151.trans (congrArg some (by kernel_rfl)),
  f309 := Tryz.func152.trans (congrArg some (by kernel_rfl)),
  f310 := Tryz.func153.trans (congrArg some (by kernel_rfl)),
  f329 := Tryz.func187.trans (congrArg some (by kernel_rfl)),
  f330 := Tryz.func188.trans (congrArg some (by kernel_rfl)),
  f333 := Tryz.func191.trans (congrArg some (by kernel_rfl)),
  f334 := Tryz.func192.trans (congrArg some (by kernel_rfl)),
  f335 := Tryz.func193.trans (congrArg some (by kernel_rfl)),
  f336 := Tryz.func194.trans (congrArg some (by kernel_rfl)),
  f344 := Tryz.func227.trans (congrArg some (by kernel_rfl)),
  t0 := Tryz.underlying0,
  a0 := Tryz.isAgg0,
  z0 := Tryz.sizeOf0,
  v0 := Tryz.zeroValue0,
  t3 := Tryz.underlying3,
  a3 := Tryz.isAgg3,
  z3 := Tryz.sizeOf3,
  v3 := Tryz.zeroValue3,
  t4 := Tryz.underlying4,
  a4 := Tryz.isAgg4,
  z4 := Tryz.sizeOf4,
  v4 := Tryz.zeroValue4,
  t5 := Tryz.underlying5,
  a5 := Tryz.isAgg5,
  z5 := Tryz.sizeOf5,
  v5 := Tryz.zeroValue5,
  t9 := Tryz.underlying9,
  a9 := Tryz.isAgg9,
  z9 := Tryz.sizeOf9,
  v9 := Tryz.zeroValue9,
  t31 := Tryz.underlying84,
  a31 := Tryz.isAgg84,
  z31 := Tryz.sizeOf84,
  v31 := Tryz.zeroValue84,
  t46 := Tryz.underlying128,
  a46 := Tryz.isAgg128,
  z46 := Tryz.sizeOf128,
  v46 := Tryz.zeroValue128,
  t51 := Tryz.underlying164,
  a51 := Tryz.isAgg164,
  z51 := Tryz.sizeOf164,
  v51 := Tryz.zeroValue164,
  t53 := Tryz.underlying166,
  a53 := Tryz.isAgg166,
  z53 := Tryz.sizeOf166,
  v53 := Tryz.zeroValue166,
  t131 := Tryz.underlying107,
  a131 := Tryz.isAgg107,
  z131 := Tryz.sizeOf107,
  v131 := Tryz.zeroValue107,
  t182 := Tryz.underlying157,
  a182 := Tryz.isAgg157,
  z182 := Tryz.sizeOf157,
  v182 := Tryz.zeroValue157,
  t183 := Tryz.underlying158,
  a183 := Tryz.isAgg158,
  z183 := Tryz.sizeOf158,
  v183 := Tryz.zeroValue158,
  t218 := Tryz.underlying199,
  a218 := Tryz.isAgg199,
  z218 := Tryz.sizeOf199,
  v218 := Tryz.zeroValue199,
  t222 := Tryz.underlying105,
  a222 := Tryz.isAgg105,
  z222 := Tryz.sizeOf105,
  v222 := Tryz.zeroValue105,
  t228 := Tryz.underlying230,
  a228 := Tryz.isAgg230,
  z228 := Tryz.sizeOf230,
  v228 := Tryz.zeroValue230,
  t229 := Tryz.underlying231,
  a229 := Tryz.isAgg231,
  z229 := Tryz.sizeOf231,
  v229 := Tryz.zeroValue231 }

def strV (s : List UInt8) : Value := .string (bstr s)
theorem sortS_any (v : Value) (ss : List (List UInt8)) (B : Nat) (w : World) (hO : w.ownsRow B 9 1 v ss.length (ss.map strV)) (hsz : ss.length ≤ 1000000) :
    Calls Tryz.prog 55 #[v] w fun e w' => e = .returned (.tuple #[]) ∧ ∃ ts : List (List UInt8), ts.Perm ss ∧ ts.Pairwise (fun a b => Op.bytesLess b a = false) ∧ w'.ownsRow B 9 1 v ts.length (ts.map strV) ∧ w.grownBy w' v.ownBlock := by
  have hO' := hO
  by_cases h0 : ss.length = 0
  · obtain rfl : ss = [] := List.length_eq_zero_iff.1 h0
    have hv : ∃ p c, v = .slice p 0 c := by
      rcases hO.2 with ⟨rfl, _⟩ | ⟨g, cap, cur, rfl, _⟩
      · exact ⟨_, _, rfl⟩
      · exact ⟨_, _, rfl⟩
    obtain ⟨p, c, rfl⟩ := hv
    refine (Any.slices_Sort_string_none shSortS p c w).mono ?_
    rintro e w' ⟨rfl, n, rfl⟩
    exact ⟨rfl, [], List.Perm.refl _, List.Pairwise.nil, hO', ⟨rfl, rfl, rfl, Nat.le_refl _, fun k _ _ => rfl⟩⟩
  · rcases hO.2 with ⟨_, hn⟩ | ⟨g, cap, cur, rfl, hb, hg, h1, h2, h3, h4⟩
    · omega
    · have hlt : g < w.heap.size := (Array.getElem?_eq_some_iff.1 hg).1
      rw [Nat.mul_one] at h4
      have hH : Holds encStr w g 0 ss.toArray := holds_of_block hg h4
      refine (Any.slices_Sort_string shSortS g 0 cap ss w hH hlt (by omega)).mono ?_
      rintro e w' ⟨rfl, n, os, rfl⟩
      have hp : (ss.mergeSort fun x y => decide (x ≤ y)).Perm ss := List.mergeSort_perm _ _
      have hl := hp.length_eq
      refine ⟨rfl, ss.mergeSort fun x y => decide (x ≤ y), hp, ?_, ?_, grownBy_sorted _⟩
      · have h := List.pairwise_mergeSort (le := fun x y : List UInt8 => decide (x ≤ y)) (fun a b c h1 h2 => by simp only [decide_eq_true_eq] at *; exact List.le_trans h1 h2) (fun a b => by simp only [Bool.or_eq_true, decide_eq_true_eq]; exact List.le_total a b) ss
        exact h.imp (fun {a b} h => by
          rw [decide_eq_true_eq] at h
          rw [bytesLess_eq]
          exact decide_eq_false (fun e => absurd h (List.not_le.2 e)))
      · have := ownsRow_sorted (n := n) (os := os) hl hb hg h1 h2 h3
        rw [hl]
        exact this
end Go.Proofs.YtgbpnghgcffkbaaGreatDoor
