/-
  slices.Sort and slices.Compact at integers, of a row that the call owns: increasing, with the same numbers.
-/
import Derived.Test.YtfgglpjmkahphaaDoorProg
import Derived.Test.YtfgglpjmkahphaaDoorBase
import Derived.Shelf.Sort.Plain
import Derived.Shelf.Slices.CompactI
import Derived.Sort.OwnSortedInts
namespace Go.Proofs.YtfgglpjmkahphaaDoor
open Go.RowKit Go.Sort
set_option linter.unusedVariables false
set_option linter.unusedSimpArgs false

def shSortI_ren : Go.Shelf.Ren := ⟨fun | 125 => 75 | 128 => 94 | 129 => 95 | 189 => 57 | 215 => 99 | 216 => 91 | 257 => 74 | 294 => 85 | 295 => 86 | 296 => 87 | 297 => 88 | 298 => 89 | 299 => 90 | 300 => 92 | 301 => 93 | 328 => 100 | 329 => 101 | 330 => 102 | 331 => 103 | 332 => 104 | 343 => 109 | n => n, fun | 0 => 0 | 3 => 3 | 4 => 4 | 5 => 5 | 9 => 9 | 28 => 47 | 46 => 114 | 51 => 136 | 53 => 138 | 131 => 94 | 182 => 128 | 183 => 129 | 218 => 140 | 222 => 144 | 228 => 153 | 229 => 154 | n => n, fun | n => n⟩
theorem shSortI : Lays.n189 Tryd.prog shSortI_ren := {
  mixed := by kernel_rfl,
  f125 := Tryd.func75.trans (congrArg some (by kernel_rfl)),
  f128 := Tryd.func94.trans (congrArg some (by kernel_rfl)),
  f129 := Tryd.func95.trans (congrArg some (by kernel_rfl)),
  f189 := Tryd.func57.trans (congrArg some (by kernel_rfl)),
  f215 := Tryd.func99.trans (congrArg some (by kernel_rfl)),
  f216 := Tryd.func91.trans (congrArg some (by kernel_rfl)),
  f257 := Tryd.func74.trans (congrArg some (by kernel_rfl)),
  f294 := Tryd.func85.trans (congrArg some (by kernel_rfl)),
  f295 := Tryd.func86.trans (congrArg some (by kernel_rfl)),
  f296 := Tryd.func87.trans (congrArg some (by kernel_rfl)),
  f297 := Tryd.func88.trans (congrArg some (by kernel_rfl)),
  f298 := Tryd.func89.trans (congrArg some (by kernel_rfl)),
  f299 := Tryd.func90.trans (congrArg some (by kernel_rfl)),
  f300 := Tryd.func92.trans (congrArg some (by kernel_rfl)),
  f301 := Tryd.func93.trans (congrArg some (by kernel_rfl)),
  f328 := Tryd.func100.trans (congrArg some (by kernel_rfl)),
  f329 := Tryd.func101.trans (congrArg some (by kernel_rfl)),
  f330 := Tryd.func102.trans (congrArg some (by kernel_rfl)),
  f331 := Tryd.func103.trans (congrArg some (by kernel_rfl)),
  f332 := Tryd.func104.trans (congrArg some (by kernel_rfl)),
  f343 := Tryd.func109.trans (congrArg some (by kernel_rfl)),
  t0 := Tryd.underlying0,
  a0 := Tryd.isAgg0,
  z0 := Tryd.sizeOf0,
  v0 := Tryd.zeroValue0,
  t3 := Tryd.underlying3,
  a3 := Tryd.isAgg3,
  z3 := Tryd.sizeOf3,
  v3 := Tryd.zeroValue3,
  t4 := Tryd.underlying4,
  a4 := Tryd.isAgg4,
  z4 := Tryd.sizeOf4,
  v4 := Tryd.zeroValue4,
  t5 := Tryd.underlying5,
  a5 := Tryd.isAgg5,
  z5 := Tryd.sizeOf5,
  v5 := Tryd.zeroValue5,
  t9 := Tryd.underlying9,
  a9 := Tryd.isAgg9,
  z9 := Tryd.sizeOf9,
  v9 := Tryd.zeroValue9,
  t28 := Tryd.underlying47,
  a28 := Tryd.isAgg47,
  z28 := Tryd.sizeOf47,
  v28 := Tryd.zeroValue47,
  t46 := Tryd.underlying114,
  a46 := Tryd.isAgg114,
  z46 := Tryd.sizeOf114,
  v46 := Tryd.zeroValue114,
  t51 := Tryd.underlying136,
  a51 := Tryd.isAgg136,
  z51 := Tryd.sizeOf136,
  v51 := Tryd.zeroValue136,
  t53 := Tryd.underlying138,
  a53 := Tryd.isAgg138,
  z53 := Tryd.sizeOf138,
  v53 := Tryd.zeroValue138,
  t131 := Tryd.underlying94,
  a131 := Tryd.isAgg94,
  z131 := Tryd.sizeOf94,
  v131 := Tryd.zeroValue94,
  t182 := Tryd.underlying128,
  a182 := Tryd.isAgg128,
  z182 := Tryd.sizeOf128,
  v182 := Tryd.zeroValue128,
  t183 := Tryd.underlying129,
  a183 := Tryd.isAgg129,
  z183 := Tryd.sizeOf129,
  v183 := Tryd.zeroValue129,
  t218 := Tryd.underlying140,
  a218 := Tryd.isAgg140,
  z218 := Tryd.sizeOf140,
  v218 := Tryd.zeroValue140,
  t222 := Tryd.underlying144,
  a222 := Tryd.isAgg144,
  z222 := Tryd.sizeOf144,
  v222 := Tryd.zeroValue144,
  t228 := Tryd.underlying153,
  a228 := Tryd.isAgg153,
  z228 := Tryd.sizeOf153,
  v228 := Tryd.zeroValue153,
  t229 := Tryd.underlying154,
  a229 := Tryd.isAgg154,
  z229 := Tryd.sizeOf154,
  v229 := Tryd.zeroValue154 }
def shCompI_ren : Go.Shelf.Ren := ⟨fun | 20 => 58 | n => n, fun | 0 => 0 | 3 => 3 | 4 => 4 | 22 => 47 | n => n, fun | n => n⟩
theorem shCompI : Lays2.n20 Tryd.prog shCompI_ren := {
  mixed := by kernel_rfl,
  f20 := Tryd.func58.trans (congrArg some (by kernel_rfl)),
  t0 := Tryd.underlying0,
  a0 := Tryd.isAgg0,
  z0 := Tryd.sizeOf0,
  v0 := Tryd.zeroValue0,
  t3 := Tryd.underlying3,
  a3 := Tryd.isAgg3,
  z3 := Tryd.sizeOf3,
  v3 := Tryd.zeroValue3,
  t4 := Tryd.underlying4,
  a4 := Tryd.isAgg4,
  z4 := Tryd.sizeOf4,
  v4 := Tryd.zeroValue4,
  t22 := Tryd.underlying47,
  a22 := Tryd.isAgg47,
  z22 := Tryd.sizeOf47,
  v22 := Tryd.zeroValue47,
  i3 := by kernel_rfl }

def srtI (zs : List Int) : List Int := zs.mergeSort fun x y => decide (x ≤ y)
theorem srtI_perm (zs : List Int) : (srtI zs).Perm zs := List.mergeSort_perm _ _
theorem srtI_len (zs : List Int) : (srtI zs).length = zs.length := (srtI_perm zs).length_eq
theorem srtI_mem {zs : List Int} {x : Int} : x ∈ srtI zs ↔ x ∈ zs := (srtI_perm zs).mem_iff
theorem srtI_sorted (zs : List Int) : (srtI zs).Pairwise (· ≤ ·) := by
  have h := List.pairwise_mergeSort (le := fun x y : Int => decide (x ≤ y)) (fun a b c h1 h2 => by simp at *; omega) (fun a b => by simp; omega) zs
  exact h.imp (fun h => by simpa using h)
theorem comp_up (d : Array Int) (hs : ∀ i j, i < j → j < d.size → d[i]! ≤ d[j]!) : ∀ m, m ≤ d.size → (∀ x, x ∈ Lib.compactUpTo d m ↔ ∃ j, j < m ∧ d[j]! = x) ∧ (Lib.compactUpTo d m).Pairwise (· < ·)
  | 0, _ => ⟨fun x => by simp [Lib.compactUpTo], by simp [Lib.compactUpTo]⟩
  | m + 1, hm => by
    obtain ⟨ih1, ih2⟩ := comp_up d hs m (by omega)
    rw [Lib.compactUpTo_succ]
    by_cases hk : Lib.keeps d m = true
    · rw [if_pos hk]
      refine ⟨fun x => ?_, List.pairwise_append.2 ⟨ih2, by simp, fun a ha b hb => ?_⟩⟩
      · rw [List.mem_append, ih1, List.mem_singleton]
        constructor
        · rintro (⟨j, hj, h⟩ | h)
          · exact ⟨j, by omega, h⟩
          · exact ⟨m, by omega, h.symm⟩
        · rintro ⟨j, hj, h⟩
          by_cases e : j = m
          · subst e; exact .inr h.symm
          · exact .inl ⟨j, by omega, h⟩
      · rw [List.mem_singleton.1 hb]
        obtain ⟨j, hj, h⟩ := (ih1 a).1 ha
        have hk' : m = 0 ∨ d[m]! ≠ d[m - 1]! := by simpa [Lib.keeps] using hk
        have h1 := hs (m - 1) m (by omega) (by omega)
        have h2 : d[j]! ≤ d[m - 1]! := by
          by_cases e : j = m - 1
          · rw [e]; exact Int.le_refl _
          · exact hs j (m - 1) (by omega) (by omega)
        rcases hk' with e | e
        · omega
        · omega
    · rw [if_neg hk, List.append_nil]
      have hk' : ¬ (m = 0 ∨ d[m]! ≠ d[m - 1]!) := by simpa [Lib.keeps] using hk
      refine ⟨fun x => ?_, ih2⟩
      rw [ih1]
      constructor
      · rintro ⟨j, hj, h⟩; exact ⟨j, by omega, h⟩
      · rintro ⟨j, hj, h⟩
        by_cases e : j = m
        · subst e
          have : d[j]! = d[j - 1]! := by
            rcases Decidable.em (d[j]! = d[j - 1]!) with q | q
            · exact q
            · exact absurd (.inr q) hk'
          exact ⟨j - 1, by omega, by rw [← this]; exact h⟩
        · exact ⟨j, by omega, h⟩
theorem comp_sorted {zs : List Int} (h : zs.Pairwise (· ≤ ·)) : (∀ x, x ∈ Lib.compact zs ↔ x ∈ zs) ∧ (Lib.compact zs).Pairwise (· < ·) := by
  have hg : ∀ i, (hi : i < zs.length) → zs.toArray[i]! = zs[i] := fun i hi => by rw [getElem!_pos zs.toArray i (by simpa using hi)]; simp
  obtain ⟨h1, h2⟩ := comp_up zs.toArray (fun i j hij hj => by
    have hj' : j < zs.length := by simpa using hj
    rw [hg i (by omega), hg j hj']
    exact List.pairwise_iff_getElem.1 h i j (by omega) hj' hij) zs.length (by simp)
  refine ⟨fun x => ?_, h2⟩
  show x ∈ Lib.compactUpTo zs.toArray zs.length ↔ _
  rw [h1]
  constructor
  · rintro ⟨j, hj, e⟩
    rw [hg j hj] at e
    rw [← e]; exact List.getElem_mem hj
  · intro hx
    obtain ⟨j, hj, e⟩ := List.mem_iff_getElem.1 hx
    exact ⟨j, hj, by rw [hg j hj]; exact e⟩
theorem compI_le (zs : List Int) : (Lib.compact zs).length ≤ zs.length := by
  unfold Lib.compact Lib.compactUpTo
  rw [List.length_map]
  have := List.length_filter_le (Lib.keeps zs.toArray) (List.range zs.length)
  rw [List.length_range] at this
  exact this
theorem sortI_any (v : Value) (zs : List Int) (B : Nat) (w : World) (hO : w.ownsRow B 3 1 v zs.length (zs.map (.int .i64))) (h0 : 0 < zs.length) (hsz : zs.length ≤ 1000000) :
    Calls Tryd.prog 57 #[v] w fun e w' => e = .returned (.tuple #[]) ∧ w'.ownsRow B 3 1 v (srtI zs).length ((srtI zs).map (.int .i64)) ∧ w.grownBy w' v.ownBlock := by
  rcases hO.2 with ⟨_, hn⟩ | ⟨g, cap, cur, rfl, hb, hg, h1, h2, h3, h4⟩
  · omega
  · have hlt : g < w.heap.size := (Array.getElem?_eq_some_iff.1 hg).1
    rw [Nat.mul_one] at h4
    have hH := holds_of_blockI hg h4
    refine (Any.slices_Sort_int shSortI g 0 cap zs w hH hlt (by omega)).mono ?_
    rintro e w' ⟨rfl, n, os, rfl⟩
    refine ⟨rfl, ?_, grownBy_sortedI _⟩
    have := ownsRow_sortedI (n := n) (os := os) (srtI_len zs) hb hg h1 h2 h3
    rw [srtI_len]
    exact this
theorem compI_any (v : Value) (zs : List Int) (B : Nat) (w : World) (hO : w.ownsRow B 3 1 v zs.length (zs.map (.int .i64))) (h0 : 0 < zs.length) (hsz : zs.length ≤ 1000000) :
    Calls Tryd.prog 58 #[v] w fun e w' => ∃ v', e = .returned v' ∧ w'.ownsRow B 3 1 v' (Lib.compact zs).length ((Lib.compact zs).map (.int .i64)) ∧ w.grownBy w' v.ownBlock := by
  rcases hO.2 with ⟨_, hn⟩ | ⟨g, cap, cur, rfl, hb, hg, h1, h2, h3, h4⟩
  · omega
  · have hlt : g < w.heap.size := (Array.getElem?_eq_some_iff.1 hg).1
    rw [Nat.mul_one] at h4
    have hH := holds_of_blockI hg h4
    refine (Any.slices_Compact_int shCompI g 0 cap zs w hH (by omega) h1).mono ?_
    rintro e w' ⟨rfl, q, hw⟩
    have hcl := compI_le zs
    have hw2 : w' = grow (putRow (Value.int .i64) (Sort.ahead w q) g 0 (Lib.compact zs ++ List.replicate (zs.length - (Lib.compact zs).length) 0).toArray) #[] := by rw [grow_empty]; exact hw
    subst hw2
    have hlen : (Lib.compact zs ++ List.replicate (zs.length - (Lib.compact zs).length) (0 : Int)).length = zs.length := by simp; omega
    refine ⟨_, rfl, ⟨by simp, .inr ⟨g, cap, _, rfl, hb, heap_sortedI _ hg, by omega, h2, by simp [putCells, h3], ?_⟩⟩, grownBy_sortedI _⟩
    have ht := take_putCellsI cur (Lib.compact zs ++ List.replicate (zs.length - (Lib.compact zs).length) (0 : Int)) (by rw [hlen, h3]; omega)
    have key : ∀ (X : List Value) (n m : Nat), n ≤ m → X.take n = (X.take m).take n := fun X n m h => by rw [List.take_take, Nat.min_eq_left h]
    rw [Nat.mul_one, key _ _ _ (show (Lib.compact zs).length ≤ (Lib.compact zs ++ List.replicate (zs.length - (Lib.compact zs).length) (0 : Int)).length by rw [hlen]; exact hcl), ht, List.map_append, List.take_left' (by simp)]
end Go.Proofs.YtfgglpjmkahphaaDoor
