/-
  slices.Sort and slices.Compact at integers, of a row that the call owns: increasing, with the same numbers.
-/
import Derived.Test.YtdljgjlkfihjdaaGreatDoorProg
import Derived.Test.YtdljgjlkfihjdaaGreatDoorBase
import Derived.Shelf.Sort.Plain
import Derived.Shelf.Slices.CompactI
import Derived.Sort.OwnSortedInts
namespace Go.Proofs.YtdljgjlkfihjdaaGreatDoor
open Go.RowKit Go.Sort
set_option linter.unusedVariables false
set_option linter.unusedSimpArgs false

def shSortI_ren : Go.Shelf.Ren := ⟨fun | 125 => 71 | 128 => 95 | 129 => 96 | 189 => 50 | 215 => 69 | 216 => 92 | 257 => 70 | 294 => 86 | 295 => 87 | 296 => 88 | 297 => 89 | 298 => 90 | 299 => 91 | 300 => 93 | 301 => 94 | 328 => 109 | 329 => 110 | 330 => 111 | 331 => 112 | 332 => 113 | 343 => 120 | n => n, fun | 0 => 0 | 3 => 3 | 4 => 4 | 5 => 5 | 9 => 9 | 28 => 26 | 46 => 91 | 51 => 113 | 53 => 115 | 131 => 76 | 182 => 105 | 183 => 106 | 218 => 125 | 222 => 129 | 228 => 134 | 229 => 135 | n => n, fun | n => n⟩
theorem shSortI : Lays.n189 Tryz.prog shSortI_ren := {
  mixed := by kernel_rfl,
  f125 := Tryz.func71.trans (congrArg some (by kernel_rfl)),
  f128 := Tryz.func95.trans (congrArg some (by kernel_rfl)),
  f129 := Tryz.func96.trans (congrArg some (by kernel_rfl)),
  f189 := Tryz.func50.trans (congrArg some (by kernel_rfl)),
  f215 := Tryz.func69.trans (congrArg some (by kernel_rfl)),
  f216 := Tryz.func92.trans (congrArg some (by kernel_rfl)),
  f257 := Tryz.func70.trans (congrArg some (by kernel_rfl)),
  f294 := Tryz.func86.trans (congrArg some (by kernel_rfl)),
  f295 := Tryz.func87.trans (congrArg some (by kernel_rfl)),
  f296 := Tryz.func88.trans (congrArg some (by kernel_rfl)),
  f297 := Tryz.func89.trans (congrArg some (by kernel_rfl)),
  f298 := Tryz.func90.trans (congrArg some (by kernel_rfl)),
  f299 := Tryz.func91.trans (congrArg some (by kernel_rfl)),
  f300 := Tryz.func93.trans (congrArg some (by kernel_rfl)),
  f301 := Tryz.func94.trans (congrArg some (by kernel_rfl)),
  f328 := Tryz.func109.trans (congrArg some (by kernel_rfl)),
  f329 := Tryz.func110.trans (congrArg some (by kernel_rfl)),
  f330 := Tryz.func111.trans (congrArg some (by kernel_rfl)),
  f331 := Tryz.func112.trans (congrArg some (by kernel_rfl)),
  f332 := Tryz.func113.trans (congrArg some (by kernel_rfl)),
  f343 := Tryz.func120.trans (congrArg some (by kernel_rfl)),
  t0 := Tryz.underlying0,
  a0 := Tryz.isAgg0,
  z0 := Tryz.sizeOf0,
  v0 := Tryz.zeroValue0,
  t3 := Tryz.underlying3,
  a3 := Tryz.isAgg3,
  z3 := Tryz.sizeOf3,
  v3 := Tryz.zeroValue3,
  t4 := Tryz.underlying4,
  a4 := Tryz.isAgg4,
  z4 := Tryz.sizeOf4,
  v4 := Tryz.zeroValue4,
  t5 := Tryz.underlying5,
  a5 := Tryz.isAgg5,
  z5 := Tryz.sizeOf5,
  v5 := Tryz.zeroValue5,
  t9 := Tryz.underlying9,
  a9 := Tryz.isAgg9,
  z9 := Tryz.sizeOf9,
  v9 := Tryz.zeroValue9,
  t28 := Tryz.underlying26,
  a28 := Tryz.isAgg26,
  z28 := Tryz.sizeOf26,
  v28 := Tryz.zeroValue26,
  t46 := Tryz.underlying91,
  a46 := Tryz.isAgg91,
  z46 := Tryz.sizeOf91,
  v46 := Tryz.zeroValue91,
  t51 := Tryz.underlying113,
  a51 := Tryz.isAgg113,
  z51 := Tryz.sizeOf113,
  v51 := Tryz.zeroValue113,
  t53 := Tryz.underlying115,
  a53 := Tryz.isAgg115,
  z53 := Tryz.sizeOf115,
  v53 := Tryz.zeroValue115,
  t131 := Tryz.underlying76,
  a131 := Tryz.isAgg76,
  z131 := Tryz.sizeOf76,
  v131 := Tryz.zeroValue76,
  t182 := Tryz.underlying105,
  a182 := Tryz.isAgg105,
  z182 := Tryz.sizeOf105,
  v182 := Tryz.zeroValue105,
  t183 := Tryz.underlying106,
  a183 := Tryz.isAgg106,
  z183 := Tryz.sizeOf106,
  v183 := Tryz.zeroValue106,
  t218 := Tryz.underlying125,
  a218 := Tryz.isAgg125,
  z218 := Tryz.sizeOf125,
  v218 := Tryz.zeroValue125,
  t222 := Tryz.underlying129,
  a222 := Tryz.isAgg129,
  z222 := Tryz.sizeOf129,
  v222 := Tryz.zeroValue129,
  t228 := Tryz.underlying134,
  a228 := Tryz.isAgg134,
  z228 := Tryz.sizeOf134,
  v228 := Tryz.zeroValue134,
  t229 := Tryz.underlying135,
  a229 := Tryz.isAgg135,
  z229 := Tryz.sizeOf135,
  v229 := Tryz.zeroValue135 }
def shCompI_ren : Go.Shelf.Ren := ⟨fun | 20 => 51 | n => n, fun | 0 => 0 | 3 => 3 | 4 => 4 | 22 => 26 | n => n, fun | n => n⟩
theorem shCompI : Lays2.n20 Tryz.prog shCompI_ren := {
  mixed := by kernel_rfl,
  f20 := Tryz.func51.trans (congrArg some (by kernel_rfl)),
  t0 := Tryz.underlying0,
  a0 := Tryz.isAgg0,
  z0 := Tryz.sizeOf0,
  v0 := Tryz.zeroValue0,
  t3 := Tryz.underlying3,
  a3 := Tryz.isAgg3,
  z3 := Tryz.sizeOf3,
  v3 := Tryz.zeroValue3,
  t4 := Tryz.underlying4,
  a4 := Tryz.isAgg4,
  z4 := Tryz.sizeOf4,
  v4 := Tryz.zeroValue4,
  t22 := Tryz.underlying26,
  a22 := Tryz.isAgg26,
  z22 := Tryz.sizeOf26,
  v22 := Tryz.zeroValue26,
  i3 := by kernel_rfl }

def srtI (zs : List Int) : List Int := zs.mergeSort fun x y => decide (x ≤ y)
theorem srtI_perm (zs : List Int) : (srtI zs).Perm zs := List.mergeSort_perm _ _
theorem srtI_len (zs : List Int) : (srtI zs).length = zs.length := (srtI_perm zs).length_eq
theorem srtI_mem {zs : List Int} {x : Int} : x ∈ srtI zs ↔ x ∈ zs := (srtI_perm zs).mem_iff
theorem srtI_sorted (zs : List Int) : (srtI zs).Pairwise (· ≤ ·) := by
  have h := List.pairwise_mergeSort (le := fun x y : Int => decide (x ≤ y)) (fun a b c h1 h2 => by simp at *; omega) (fun a b => by simp; omega) zs
  exact h.imp (fun h => by simpa using h)
theorem comp_up (d : Array Int) (hs : ∀ i j, i < j → j < d.size → d[i]! ≤ d[j]!) : ∀ m, m ≤ d.size → (∀ x, x ∈ Lib.compactUpTo d m ↔ ∃ j, j < m ∧ d[j]! = x) ∧ (Lib.compactUpTo d m).Pairwise (· < ·)
  | 0, _ => ⟨fun x => by simp [Lib.compactUpTo], by simp [Lib.compactUpTo]⟩
  | m + 1, hm => by
    obtain ⟨ih1, ih2⟩ := comp_up d hs m (by omega)
    rw [Lib.compactUpTo_succ]
    by_cases hk : Lib.keeps d m = true
    · rw [if_pos hk]
      refine ⟨fun x => ?_, List.pairwise_append.2 ⟨ih2, by simp, fun a ha b hb => ?_⟩⟩
      · rw [List.mem_append, ih1, List.mem_singleton]
        constructor
        · rintro (⟨j, hj, h⟩ | h)
          · exact ⟨j, by omega, h⟩
          · exact ⟨m, by omega, h.symm⟩
        · rintro ⟨j, hj, h⟩
          by_cases e : j = m
          · subst e; exact .inr h.symm
          · exact .inl ⟨j, by omega, h⟩
      · rw [List.mem_singleton.1 hb]
        obtain ⟨j, hj, h⟩ := (ih1 a).1 ha
        have hk' : m = 0 ∨ d[m]! ≠ d[m - 1]! := by simpa [Lib.keeps] using hk
        have h1 := hs (m - 1) m (by omega) (by omega)
        have h2 : d[j]! ≤ d[m - 1]! := by
          by_cases e : j = m - 1
          · rw [e]; exact Int.le_refl _
          · exact hs j (m - 1) (by omega) (by omega)
        rcases hk' with e | e
        · omega
        · omega
    · rw [if_neg hk, List.append_nil]
      have hk' : ¬ (m = 0 ∨ d[m]! ≠ d[m - 1]!) := by simpa [Lib.keeps] using hk
      refine ⟨fun x => ?_, ih2⟩
      rw [ih1]
      constructor
      · rintro ⟨j, hj, h⟩; exact ⟨j, by omega, h⟩
      · rintro ⟨j, hj, h⟩
        by_cases e : j = m
        · subst e
          have : d[j]! = d[j - 1]! := by
            rcases Decidable.em (d[j]! = d[j - 1]!) with q | q
            · exact q
            · exact absurd (.inr q) hk'
          exact ⟨j - 1, by omega, by rw [← this]; exact h⟩
        · exact ⟨j, by omega, h⟩
theorem comp_sorted {zs : List Int} (h : zs.Pairwise (· ≤ ·)) : (∀ x, x ∈ Lib.compact zs ↔ x ∈ zs) ∧ (Lib.compact zs).Pairwise (· < ·) := by
  have hg : ∀ i, (hi : i < zs.length) → zs.toArray[i]! = zs[i] := fun i hi => by rw [getElem!_pos zs.toArray i (by simpa using hi)]; simp
  obtain ⟨h1, h2⟩ := comp_up zs.toArray (fun i j hij hj => by
    have hj' : j < zs.length := by simpa using hj
    rw [hg i (by omega), hg j hj']
    exact List.pairwise_iff_getElem.1 h i j (by omega) hj' hij) zs.length (by simp)
  refine ⟨fun x => ?_, h2⟩
  show x ∈ Lib.compactUpTo zs.toArray zs.length ↔ _
  rw [h1]
  constructor
  · rintro ⟨j, hj, e⟩
    rw [hg j hj] at e
    rw [← e]; exact List.getElem_mem hj
  · intro hx
    obtain ⟨j, hj, e⟩ := List.mem_iff_getElem.1 hx
    exact ⟨j, hj, by rw [hg j hj]; exact e⟩
theorem compI_le (zs : List Int) : (Lib.compact zs).length ≤ zs.length := by
  unfold Lib.compact Lib.compactUpTo
  rw [List.length_map]
  have := List.length_filter_le (Lib.keeps zs.toArray) (List.range zs.length)
  rw [List.length_range] at this
  exact this
theorem sortI_any (v : Value) (zs : List Int) (B : Nat) (w : World) (hO : w.ownsRow B 3 1 v zs.length (zs.map (.int .i64))) (h0 : 0 < zs.length) (hsz : zs.length ≤ 1000000) :
    Calls Tryz.prog 50 #[v] w fun e w' => e = .returned (.tuple #[]) ∧ w'.ownsRow B 3 1 v (srtI zs).length ((srtI zs).map (.int .i64)) ∧ w.grownBy w' v.ownBlock := by
  rcases hO.2 with ⟨_, hn⟩ | ⟨g, cap, cur, rfl, hb, hg, h1, h2, h3, h4⟩
  · omega
  · have hlt : g < w.heap.size := (Array.getElem?_eq_some_iff.1 hg).1
    rw [Nat.mul_one] at h4
    have hH := holds_of_blockI hg h4
    refine (Any.slices_Sort_int shSortI g 0 cap zs w hH hlt (by omega)).mono ?_
    rintro e w' ⟨rfl, n, os, rfl⟩
    refine ⟨rfl, ?_, grownBy_sortedI _⟩
    have := ownsRow_sortedI (n := n) (os := os) (srtI_len zs) hb hg h1 h2 h3
    rw [srtI_len]
    exact this
theorem compI_any (v : Value) (zs : List Int) (B : Nat) (w : World) (hO : w.ownsRow B 3 1 v zs.length (zs.map (.int .i64))) (h0 : 0 < zs.length) (hsz : zs.length ≤ 1000000) :
    Calls Tryz.prog 51 #[v] w fun e w' => ∃ v', e = .returned v' ∧ w'.ownsRow B 3 1 v' (Lib.compact zs).length ((Lib.compact zs).map (.int .i64)) ∧ w.grownBy w' v.ownBlock := by
  rcases hO.2 with ⟨_, hn⟩ | ⟨g, cap, cur, rfl, hb, hg, h1, h2, h3, h4⟩
  · omega
  · have hlt : g < w.heap.size := (Array.getElem?_eq_some_iff.1 hg).1
    rw [Nat.mul_one] at h4
    have hH := holds_of_blockI hg h4
    refine (Any.slices_Compact_int shCompI g 0 cap zs w hH (by omega) h1).mono ?_
    rintro e w' ⟨rfl, q, hw⟩
    have hcl := compI_le zs
    have hw2 : w' = grow (putRow (Value.int .i64) (Sort.ahead w q) g 0 (Lib.compact zs ++ List.replicate (zs.length - (Lib.compact zs).length) 0).toArray) #[] := by rw [grow_empty]; exact hw
    subst hw2
    have hlen : (Lib.compact zs ++ List.replicate (zs.length - (Lib.compact zs).length) (0 : Int)).length = zs.length := by simp; omega
    refine ⟨_, rfl, ⟨by simp, .inr ⟨g, cap, _, rfl, hb, heap_sortedI _ hg, by omega, h2, by simp [putCells, h3], ?_⟩⟩, grownBy_sortedI _⟩
    have ht := take_putCellsI cur (Lib.compact zs ++ List.replicate (zs.length - (Lib.compact zs).length) (0 : Int)) (by rw [hlen, h3]; omega)
    have key : ∀ (X : List Value) (n m : Nat), n ≤ m → X.take n = (X.take m).take n := fun X n m h => by rw [List.take_take, Nat.min_eq_left h]
    rw [Nat.mul_one, key _ _ _ (show (Lib.compact zs).length ≤ (Lib.compact zs ++ List.replicate (zs.length - (Lib.compact zs).length) (0 : Int)).length by rw [hlen]; exact hcl), ht, List.map_append, List.take_left' (by simp)]
end Go.Proofs.YtdljgjlkfihjdaaGreatDoor
