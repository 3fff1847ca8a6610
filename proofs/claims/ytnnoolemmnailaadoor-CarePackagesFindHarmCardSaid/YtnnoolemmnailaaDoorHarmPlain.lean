/-
  What is wrong with files by their own package, and with one byte changed: in plain words.
-/
import Derived.Test.YtnnoolemmnailaaDoorProg
import Derived.Test.YtnnoolemmnailaaDoorWrong
import Derived.Test.YtnnoolemmnailaaDoorDamaged
import Derived.Test.YtnnoolemmnailaaDoorFnvInj
namespace Go.Proofs.YtnnoolemmnailaaDoor
open Go.RowKit
set_option linter.unusedVariables false
set_option linter.unusedSimpArgs false

theorem files_sorted {F : List FileR} (h : filesFault F = 0) : F.Pairwise (fun a b => Op.bytesLess a.path b.path = true) := by
  refine pairwise_of_next (fun a b : FileR => Op.bytesLess a.path b.path = true) (fun _ _ _ h k => bl_trans h k) fun i hi => ?_
  have h1 := ((files_ok h).2 (i + 1) hi).2.2
  simp only [Nat.add_sub_cancel] at h1
  have h2 : ¬ sle F[i + 1].path F[i].path = true := fun e => h1 ⟨by omega, e⟩
  unfold sle at h2
  rcases scmp_cases F[i].path F[i + 1].path with ⟨_, h, _⟩ | ⟨_, _, _, h⟩ | ⟨_, _, h, _⟩
  · exact h
  · rw [h] at h2; simp at h2
  · rw [h] at h2; simp at h2
theorem files_same {F F' : List FileR} (h : filesFault F = 0) (hl : F'.length = F.length) (hp : ∀ j (h : j < F.length), (F'[j]'(by omega)).path = F[j].path ∧ (F'[j]'(by omega)).bytes.length = F[j].bytes.length) : filesFault F' = 0 := by
  have hk := files_ok h
  refine filesFault_ok (by omega) fun j hj => ?_
  obtain ⟨a, b, c⟩ := hk.2 j (by omega)
  refine fileF_4 hj (by rw [(hp j (by omega)).1]; exact a) (by rw [(hp j (by omega)).2]; omega) ?_
  rintro ⟨h0, h1⟩
  rw [(hp j (by omega)).1, (hp (j - 1) (by omega)).1] at h1
  exact c ⟨h0, h1⟩
theorem haveL_at {F : List FileR} (h : F.Pairwise (fun a b => Op.bytesLess a.path b.path = true)) {j : Nat} (hj : j < F.length) : haveL F F[j].path = some F[j].bytes := by
  unfold haveL
  cases hf : F.reverse.find? (fun x => decide (x.path = F[j].path)) with
  | none =>
    have := List.find?_eq_none.1 hf F[j] (by simp)
    simp at this
  | some x =>
    have h1 := List.find?_some hf
    have h2 := List.mem_of_find?_eq_some hf
    rw [List.mem_reverse] at h2
    obtain ⟨i, hi, rfl⟩ := List.mem_iff_getElem.1 h2
    have he : F[i].path = F[j].path := by simpa using h1
    rw [List.pairwise_iff_getElem] at h
    rcases Nat.lt_trichotomy i j with hlt | rfl | hlt
    · exact absurd he (bl_ne (h i j hi hj hlt))
    · rfl
    · exact absurd he.symm (bl_ne (h j i hj hi hlt))
theorem pack_made {n : List UInt8} {F : List FileR} (hn : isNm n = true) (h : filesFault F = 0) : packFault n (F.map listedOf) = 0 := by
  have hk := files_ok h
  rw [packFault, if_neg (by rw [hn]; decide)]
  refine entsFault_ok (by simp; omega) fun j hj => ?_
  have hj' : j < F.length := by simpa using hj
  obtain ⟨a, b, c⟩ := hk.2 j hj'
  refine entF_5 hj (by rw [List.getElem_map]; exact a) (by rw [List.getElem_map]; simp [withinB, listedOf]; omega) (by rw [List.getElem_map]; exact isDig_digL _) ?_
  rw [List.getElem_map, List.getElem_map]
  exact c
theorem flat_nil {α : Type} (f : α → List Def) : ∀ (l : List α), (∀ j (hj : j < l.length), f l[j] = []) → l.flatMap f = []
  | [], _ => rfl
  | a :: l, h => by
    rw [List.flatMap_cons, show f a = [] from h 0 (by simp), List.nil_append]
    exact flat_nil f l fun j hj => h (j + 1) (by simpa using hj)
theorem flat_one {α : Type} (f : α → List Def) (d : Def) : ∀ (l : List α) (m : Nat) (hm : m < l.length), f l[m] = [d] → (∀ j (hj : j < l.length), j ≠ m → f l[j] = []) → l.flatMap f = [d]
  | a :: l, 0, _, h, ho => by
    rw [List.flatMap_cons, show f a = [d] from h, flat_nil f l fun j hj => ho (j + 1) (by simpa using hj) (by omega)]
    rfl
  | a :: l, m + 1, hm, h, ho => by
    rw [List.flatMap_cons, show f a = [] from ho 0 (by simp) (by omega), List.nil_append]
    exact flat_one f d l m (by simpa using hm) h fun j hj hne => ho (j + 1) (by simpa using hj) (by omega)
theorem wrong_made {F F' : List FileR} (h : filesFault F' = 0) (hl : F'.length = F.length) (hp : ∀ j (h : j < F.length), (F'[j]'(by omega)).path = F[j].path ∧ (F'[j]'(by omega)).bytes.length = F[j].bytes.length) :
    wrongL (F.map listedOf) F' = (F.map listedOf).flatMap (defOf F') ∧ ∀ j (hj : j < F.length), defOf F' (listedOf F[j]) = if digL (F'[j]'(by omega)).bytes = digL F[j].bytes then [] else [⟨F[j].path, 4⟩] := by
  have hs := files_sorted h
  constructor
  · rw [wrongL, flat_nil (newOf _) F' fun j hj => ?_, List.append_nil]
    rw [newOf, if_pos]
    rw [List.map_map]
    exact List.mem_map.2 ⟨F[j]'(by omega), List.getElem_mem _, ((hp j (by omega)).1).symm⟩
  · intro j hj
    have ha := haveL_at hs (j := j) (by omega)
    rw [(hp j hj).1] at ha
    have hz : ((F'[j]'(by omega)).bytes.length : Int) = (listedOf F[j]).size := by show _ = ((F[j].bytes.length : Nat) : Int); rw [(hp j hj).2]
    split
    · rename_i e
      exact defOf_ok ha hz e
    · rename_i e
      exact defOf_dig ha hz e
theorem wrong_none {F : List FileR} (h : filesFault F = 0) : wrongL (F.map listedOf) F = [] := by
  obtain ⟨h1, h2⟩ := wrong_made h rfl (fun j hj => ⟨rfl, rfl⟩)
  rw [h1]
  refine flat_nil _ _ fun j hj => ?_
  rw [List.getElem_map, h2 j (by simpa using hj), if_pos rfl]
theorem flip_len (b : List UInt8) (q : Nat) : (flipAt b q).length = b.length := by simp [flipAt]
theorem flip_ne (x : UInt8) : x ^^^ 1 ≠ x := fun e => by
  have := congrArg UInt8.toNat e
  rw [UInt8.toNat_xor] at this
  have := xor_cancel_left (a := x.toNat) (b := (1 : UInt8).toNat) (c := 0) (by rw [this, Nat.xor_zero])
  exact absurd this (by decide)
theorem dig_flip {b : List UInt8} {q : Nat} (hq : q < b.length) : digL (flipAt b q) ≠ digL b := by
  unfold flipAt digL
  rw [getD_lt _ _ _ hq]
  exact dig_set b q hq _ (flip_ne _)
/-- With one byte changed just this file is wrong. -/
theorem dam_wrong {F : List FileR} (h : filesFault F = 0) (x y : Int) :
    filesFault (damL F x y) = 0 ∧ (damP F x = [] → wrongL (F.map listedOf) (damL F x y) = []) ∧ (damP F x ≠ [] → wrongL (F.map listedOf) (damL F x y) = [⟨damP F x, 4⟩]) := by
  unfold damP damL
  by_cases hz : F.length = 0
  · simp only [if_pos hz]
    exact ⟨h, fun _ => wrong_none h, fun hne => absurd rfl hne⟩
  · have hm := belowK_lt x (show 0 < F.length by omega)
    simp only [if_neg hz, getD_at _ _ hm]
    generalize belowK x F.length = m at hm
    by_cases hb : F[m].bytes.length = 0
    · simp only [if_pos hb]
      exact ⟨h, fun _ => wrong_none h, fun hne => absurd rfl hne⟩
    · simp only [if_neg hb]
      have hq := belowK_lt y (show 0 < F[m].bytes.length by omega)
      generalize belowK y F[m].bytes.length = q at hq
      have hl : (F.set m ⟨F[m].path, flipAt F[m].bytes q⟩).length = F.length := by simp
      have hp : ∀ j (h : j < F.length), ((F.set m ⟨F[m].path, flipAt F[m].bytes q⟩)[j]'(by omega)).path = F[j].path ∧ ((F.set m ⟨F[m].path, flipAt F[m].bytes q⟩)[j]'(by omega)).bytes.length = F[j].bytes.length := fun j hj => by
        by_cases e : m = j
        · subst e; rw [List.getElem_set_self]; exact ⟨rfl, flip_len _ _⟩
        · rw [List.getElem_set_ne e]; exact ⟨rfl, rfl⟩
      have hf := files_same h hl hp
      obtain ⟨h1, h2⟩ := wrong_made hf hl hp
      refine ⟨hf, fun e => ?_, fun _ => ?_⟩
      · have := (isPathB_len ((files_ok h).2 m hm).1).1
        rw [e] at this
        exact absurd this (by decide)
      · rw [h1]
        refine flat_one _ _ _ m (by simpa using hm) ?_ fun j hj hne => ?_
        · rw [List.getElem_map, h2 m hm, List.getElem_set_self, if_neg (dig_flip hq)]
        · rw [List.getElem_map, h2 j (by simpa using hj), List.getElem_set_ne (Ne.symm hne), if_pos rfl]
end Go.Proofs.YtnnoolemmnailaaDoor
