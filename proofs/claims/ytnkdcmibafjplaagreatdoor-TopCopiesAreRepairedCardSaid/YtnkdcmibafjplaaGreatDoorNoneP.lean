/-
  Files by their own package: nothing is wrong with them.
  append onto the row of a constant string's bytes ([]byte of a literal): what it reads as.
-/
import Derived.Test.YtnkdcmibafjplaaGreatDoorProg
import Derived.Test.YtnkdcmibafjplaaGreatDoorWrong
import Derived.Test.YtnkdcmibafjplaaGreatDoorFilesSort
import Derived.Test.YtnkdcmibafjplaaGreatDoorBase
import Derived.Deep.AppendSrc
import Derived.Lib.SlBytesConst
import Derived.Lib.FrozenHead2
namespace Go.Proofs.YtnkdcmibafjplaaGreatDoor
open Go.RowKit
set_option linter.unusedVariables false
set_option linter.unusedSimpArgs false

theorem hexB_mem (m : Int) : hexSet.contains (hexB m) = true := by
  have h : (m % 16).toNat < 16 := by omega
  unfold hexB hexSet
  revert h
  generalize (m % 16).toNat = k
  intro h
  have : ∀ k < 16, ([48, 49, 50, 51, 52, 53, 54, 55, 56, 57, 97, 98, 99, 100, 101, 102] : List UInt8).contains (([48, 49, 50, 51, 52, 53, 54, 55, 56, 57, 97, 98, 99, 100, 101, 102] : List UInt8).getD k 0) = true := by decide
  exact this k h
theorem isDig_digL (t : List UInt8) : isDig (digL t) = true := by
  unfold isDig
  rw [digL_len, decide_eq_true rfl, Bool.true_and, List.all_eq_true]
  intro c hc
  unfold digL hexL at hc
  obtain ⟨i, _, rfl⟩ := List.mem_map.1 hc
  exact hexB_mem _
theorem haveL_at {F : List FileR} (h : F.Pairwise (fun a b => Op.bytesLess a.path b.path = true)) {j : Nat} (hj : j < F.length) : haveL F F[j].path = some F[j].bytes := by
  unfold haveL
  cases hf : F.reverse.find? (fun x => decide (x.path = F[j].path)) with
  | none =>
    have := List.find?_eq_none.1 hf F[j] (by simp)
    simp at this
  | some x =>
    have h1 := List.find?_some hf
    have h2 := List.mem_of_find?_eq_some hf
    rw [List.mem_reverse] at h2
    obtain ⟨i, hi, rfl⟩ := List.mem_iff_getElem.1 h2
    have he : F[i].path = F[j].path := by simpa using h1
    rw [List.pairwise_iff_getElem] at h
    rcases Nat.lt_trichotomy i j with hlt | rfl | hlt
    · exact absurd he (bl_ne (h i j hi hj hlt))
    · rfl
    · exact absurd he.symm (bl_ne (h j i hj hi hlt))
theorem pack_made {n : List UInt8} {F : List FileR} (hn : isNm n = true) (h : filesFault F = 0) : packFault n (F.map listedOf) = 0 := by
  have hk := files_ok h
  rw [packFault, if_neg (by rw [hn]; decide)]
  refine entsFault_ok (by simp; omega) fun j hj => ?_
  have hj' : j < F.length := by simpa using hj
  obtain ⟨a, b, c⟩ := hk.2 j hj'
  refine entF_5 hj (by rw [List.getElem_map]; exact a) (by rw [List.getElem_map]; simp [withinB, listedOf]; omega) (by rw [List.getElem_map]; exact isDig_digL _) ?_
  rw [List.getElem_map, List.getElem_map]
  exact c
theorem flat_nil {α : Type} (f : α → List Def) : ∀ (l : List α), (∀ j (hj : j < l.length), f l[j] = []) → l.flatMap f = []
  | [], _ => rfl
  | a :: l, h => by
    rw [List.flatMap_cons, show f a = [] from h 0 (by simp), List.nil_append]
    exact flat_nil f l fun j hj => h (j + 1) (by simpa using hj)
theorem wrong_made {F F' : List FileR} (h : filesFault F' = 0) (hl : F'.length = F.length) (hp : ∀ j (h : j < F.length), (F'[j]'(by omega)).path = F[j].path ∧ (F'[j]'(by omega)).bytes.length = F[j].bytes.length) :
    wrongL (F.map listedOf) F' = (F.map listedOf).flatMap (defOf F') ∧ ∀ j (hj : j < F.length), defOf F' (listedOf F[j]) = if digL (F'[j]'(by omega)).bytes = digL F[j].bytes then [] else [⟨F[j].path, 4⟩] := by
  have hs := files_sorted h
  constructor
  · rw [wrongL, flat_nil (newOf _) F' fun j hj => ?_, List.append_nil]
    rw [newOf, if_pos]
    rw [List.map_map]
    exact List.mem_map.2 ⟨F[j]'(by omega), List.getElem_mem _, ((hp j (by omega)).1).symm⟩
  · intro j hj
    have ha := haveL_at hs (j := j) (by omega)
    rw [(hp j hj).1] at ha
    have hz : ((F'[j]'(by omega)).bytes.length : Int) = (listedOf F[j]).size := by show _ = ((F[j].bytes.length : Nat) : Int); rw [(hp j hj).2]
    split
    · rename_i e
      exact defOf_ok ha hz e
    · rename_i e
      exact defOf_dig ha hz e
theorem wrong_none {F : List FileR} (h : filesFault F = 0) : wrongL (F.map listedOf) F = [] := by
  obtain ⟨h1, h2⟩ := wrong_made h rfl (fun j hj => ⟨rfl, rfl⟩)
  rw [h1]
  refine flat_nil _ _ fun j hj => ?_
  rw [List.getElem_map, h2 j (by simpa using hj), if_pos rfl]
end Go.Proofs.YtnkdcmibafjplaaGreatDoor
namespace Go.Proofs.YtnkdcmibafjplaaGreatDoor
open Go.RowKit
set_option linter.unusedVariables false
set_option linter.unusedSimpArgs false

theorem uint8_infoR : (Tryz.prog.info? 5).map (fun i => (i.zero, i.size, i.bytes)) = some (some (.int .u8 0), 1, 1) := by kernel_rfl
set_option maxRecDepth 100000 in
theorem run_app_mark (w : World) (g : Nat) {S : Nat → Prop} {A : Option Addr} {c : Nat} {l : List UInt8} (hx : (Rp.sl Rp.u8).ok w S [.slice A l.length c] l) (hb : w.heap[g]? = some (.cells #[.int .u8 120] 5 (1, 2))) (hl : l.length ≤ 100000) :
    ∃ A' c' w', (∀ ty, (Builtin.append_ #[33, 33] ty #[.slice (some ⟨g, 0, none⟩) 1 1, .slice A l.length c]).run Tryz.prog w = .ok (.slice A' (1 + l.length) c') w') ∧ (Rp.sl Rp.u8).ok w' (· < w'.heap.size) [.slice A' (1 + l.length) c'] (120 :: l) ∧ Below w.heap.size w w' := by
  obtain ⟨i, hi, hz, h1, h2⟩ := info_parts uint8_infoR
  have hgl : g < w.heap.size := (Array.getElem?_eq_some_iff.1 hb).1
  have hgc : w.cell? ⟨g, 0, none⟩ = some (.int .u8 120) := by rw [cell_of_row w g 0 _ _ _ hb]; rfl
  by_cases hl0 : l = []
  · subst hl0
    obtain ⟨A', c', e0, _⟩ := hx
    refine ⟨some ⟨g, 0, none⟩, 1, w, fun ty => ?_, ?_, Below.refl _ _⟩
    · have hs : Src Tryz.prog i.size 33 (.slice A ([] : List UInt8).length c) 0 [] w := by
        cases A with
        | none => exact Src.ofNil w Tryz.underlying33 c
        | some ad => exact Src.ofSlice w Tryz.underlying33 ad 0 c [] (by simp) (fun j u h => by simp at h) (fun u h => by cases h)
      exact run_append_room_src w 33 33 ty 5 i Tryz.underlying33 hi g 0 1 1 _ 0 [] hs (by omega) (fun j h => by simp at h) (fun j h => by simp at h)
    · refine ⟨_, _, rfl, by simp, by unfold maxLen; omega, by simp, fun k hk => ?_⟩
      have hk0 : k = 0 := by simpa using hk
      subst hk0
      refine ⟨_, [.int .u8 120], rfl, hgl, rfl, fun j u hu => ?_⟩
      match j, hu with
      | 0, hu =>
        injection hu with hu
        subst hu
        have hadd : (⟨g, 0, none⟩ : Addr).add (0 * Rp.u8.sz + 0) = ⟨g, 0, none⟩ := by unfold Addr.add; simp
        rw [hadd]
        exact hgc
  · obtain ⟨ad, _, rfl, _⟩ := Rp.sl_at1 rfl hx (k := 0) (List.length_pos_iff.2 hl0)
    have hcells : ∀ j u, (l.map fun b : UInt8 => Value.int .u8 b.toNat)[j]? = some u → w.cell? (ad.add j) = some u := by
      intro j u hj
      rw [List.getElem?_map] at hj
      obtain ⟨a, ha, rfl⟩ := Option.map_eq_some_iff.1 hj
      obtain ⟨hjl, rfl⟩ := List.getElem?_eq_some_iff.1 ha
      obtain ⟨ad', u', e1, _, hu', hc⟩ := Rp.sl_at1 rfl hx hjl
      injection e1 with e1
      subst e1
      have hu2 : u' = .int .u8 (l[j].toNat : Int) := by injection hu'
      rw [hc, hu2]
    have hone : ∀ u ∈ l.map fun b : UInt8 => Value.int .u8 b.toNat, u.oneCell' = true := by
      intro u hu
      obtain ⟨a, _, rfl⟩ := List.mem_map.1 hu
      rfl
    have hp := List.length_pos_iff.2 hl0
    have hr := fun ty => run_append_grow (P := Tryz.prog) w 33 ty 5 i _ Tryz.underlying33 hi hz ⟨g, 0, none⟩ 1 1 [.int .u8 120] (by rw [h1]; rfl) (fun j u hj => by
      match j, hj with
      | 0, hj =>
        injection hj with hj
        subst hj
        have hadd : (⟨g, 0, none⟩ : Addr).add 0 = ⟨g, 0, none⟩ := by unfold Addr.add; simp
        rw [hadd]
        exact hgc) ad l.length c (l.map fun b : UInt8 => Value.int .u8 b.toNat) (by rw [h1]; simp) hcells (by omega) (by omega) (growslice_fits (by omega) (by rw [h2]; omega))
    have hge := grownCap_ge w (1 + l.length) 1 5
    have hcm := grownCap_le_maxLen w (1 + l.length) 1 5 (by unfold maxLen; omega)
    refine ⟨_, _, _, hr, ?_, ?_⟩
    · have ho : (w.drew.alloc (.cells ([Value.int .u8 120].toArray ++ (l.map fun b : UInt8 => Value.int .u8 b.toNat).toArray ++ Builtin.zeroCells (Value.int .u8 0).cells (grownCap w (1 + l.length) 1 5 - (1 + l.length))) 5)).ownsRow w.heap.size 5 1 (.slice (some ⟨w.heap.size, 0, none⟩) (120 :: l).length (grownCap w (1 + l.length) 1 5)) (120 :: l).length ((120 :: l).map fun b : UInt8 => Value.int .u8 b.toNat) := by
        refine ⟨by simp, .inr ⟨w.heap.size, _, _, rfl, Nat.le_refl _, heap_alloc_new w.drew _, by simp; omega, hcm, ?_, ?_⟩⟩
        · simp only [Array.size_append, List.size_toArray, size_zeroCells, List.length_append, List.length_map, List.length_singleton]
          have : (Value.int .u8 0).cells.size = 1 := rfl
          rw [this]
          omega
        · simp only [Array.toList_append]
          have e1 : (([Value.int .u8 120] ++ l.map fun b : UInt8 => Value.int .u8 b.toNat) : List Value) = (120 :: l).map fun b : UInt8 => Value.int .u8 b.toNat := rfl
          rw [e1]
          have e2 : (120 :: l).length * 1 = ((120 :: l).map fun b : UInt8 => Value.int .u8 b.toNat).length := by simp
          rw [e2]
          exact List.take_left
      have := Rp.of_own1 (R := Rp.u8) rfl ho (fun g hg => (ho.lt g hg).2) (fun a _ => Rp.u8_ok _ _ a)
      rw [List.length_cons, Nat.add_comm l.length 1] at this
      exact this
    · exact below_drewN (Below.refl _ _) 1 |>.alloc (Nat.le_refl _) _
end Go.Proofs.YtnkdcmibafjplaaGreatDoor
