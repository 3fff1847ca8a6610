/-
  'nearer' and 'Nearer' of package rights.
-/
import Derived.Test.YtobgkmkapknppaaDoorRgtC
import Derived.Deep.RegionHeld3
namespace Go.Proofs.YtobgkmkapknppaaDoor
open Go.RowKit
set_option linter.unusedVariables false
set_option linter.unusedSimpArgs false

set_option maxRecDepth 100000 in
set_option maxHeartbeats 4000000 in
theorem near_any (a b : Rgt) (w : World) :
    Calls Tryd.prog 11 #[.agg #[.string (bstr a.id), .string (bstr a.pre), .int .i64 a.frm, .int .i64 a.to, .int .i64 a.st, .int .i64 a.en, .int .i64 a.made, .int .i64 a.kind, .string (bstr a.team)], .agg #[.string (bstr b.id), .string (bstr b.pre), .int .i64 b.frm, .int .i64 b.to, .int .i64 b.st, .int .i64 b.en, .int .i64 b.made, .int .i64 b.kind, .string (bstr b.team)]] w fun e w' => e = .returned (.int .i64 (near a b)) ∧ Below w.heap.size w w' := by
  have hb1 := (Below.refl w.heap.size w).alloc (Nat.le_refl _) (.cells #[.string (bstr a.id), .string (bstr a.pre), .int .i64 a.frm, .int .i64 a.to, .int .i64 a.st, .int .i64 a.en, .int .i64 a.made, .int .i64 a.kind, .string (bstr a.team)] 23)
  have hb2 := (Below.refl (w.alloc (.cells #[.string (bstr a.id), .string (bstr a.pre), .int .i64 a.frm, .int .i64 a.to, .int .i64 a.st, .int .i64 a.en, .int .i64 a.made, .int .i64 a.kind, .string (bstr a.team)] 23)).heap.size _).alloc (Nat.le_refl _) (.cells #[.string (bstr b.id), .string (bstr b.pre), .int .i64 b.frm, .int .i64 b.to, .int .i64 b.st, .int .i64 b.en, .int .i64 b.made, .int .i64 b.kind, .string (bstr b.team)] 23)
  have HB := Lib.hid (hb1.trans (hb2.mono (by simp)))
  have hka : Blk ((w.alloc (.cells #[.string (bstr a.id), .string (bstr a.pre), .int .i64 a.frm, .int .i64 a.to, .int .i64 a.st, .int .i64 a.en, .int .i64 a.made, .int .i64 a.kind, .string (bstr a.team)] 23)).alloc (.cells #[.string (bstr b.id), .string (bstr b.pre), .int .i64 b.frm, .int .i64 b.to, .int .i64 b.st, .int .i64 b.en, .int .i64 b.made, .int .i64 b.kind, .string (bstr b.team)] 23)) w.heap.size 23 (rgtCells a) := (Blk.new w 23 (rgtCells a)).same (same_below hb2) (by simp)
  have hkb : Blk ((w.alloc (.cells #[.string (bstr a.id), .string (bstr a.pre), .int .i64 a.frm, .int .i64 a.to, .int .i64 a.st, .int .i64 a.en, .int .i64 a.made, .int .i64 a.kind, .string (bstr a.team)] 23)).alloc (.cells #[.string (bstr b.id), .string (bstr b.pre), .int .i64 b.frm, .int .i64 b.to, .int .i64 b.st, .int .i64 b.en, .int .i64 b.made, .int .i64 b.kind, .string (bstr b.team)] 23)) (w.heap.size + 1) 23 (rgtCells b) := by
    have := Blk.new (w.alloc (.cells #[.string (bstr a.id), .string (bstr a.pre), .int .i64 a.frm, .int .i64 a.to, .int .i64 a.st, .int .i64 a.en, .int .i64 a.made, .int .i64 a.kind, .string (bstr a.team)] 23)) 23 (rgtCells b)
    rwa [World.size_alloc] at this
  have HKA := Lib.hid hka
  have HKB := Lib.hid hkb
  have HF : Hid (near a b = orL [icmp (b.pre.length : Int) (a.pre.length : Int), icmp b.made a.made, icmp (none1 b) (none1 a), scmp a.id b.id]) := Lib.hid rfl
  clear hb1 hb2 hka hkb
  go_enter Tryd.func11, Tryd.ntmps11
  go_wp2_with fail
  obtain ⟨ba, hba⟩ : ∃ ba, w.heap.size = ba := ⟨_, rfl⟩
  obtain ⟨bb, hbb⟩ : ∃ bb, ba + 1 = bb := ⟨_, rfl⟩
  rw [hba] at HKA HKB ⊢
  rw [hbb] at HKB ⊢
  generalize (w.alloc (.cells #[.string (bstr a.id), .string (bstr a.pre), .int .i64 a.frm, .int .i64 a.to, .int .i64 a.st, .int .i64 a.en, .int .i64 a.made, .int .i64 a.kind, .string (bstr a.team)] 23)).alloc (.cells #[.string (bstr b.id), .string (bstr b.pre), .int .i64 b.frm, .int .i64 b.to, .int .i64 b.st, .int .i64 b.en, .int .i64 b.made, .int .i64 b.kind, .string (bstr b.team)] 23) = w4 at *
  clear hba hbb
  have KEEP : Hid (∀ w', Below w4.heap.size w4 w' → (w'.cell? ⟨ba, 0, none⟩ = some (.string (bstr a.id)) ∧ w'.cell? ⟨ba, 1, none⟩ = some (.string (bstr a.pre)) ∧ w'.cell? ⟨ba, 2, none⟩ = some (.int .i64 a.frm) ∧ w'.cell? ⟨ba, 3, none⟩ = some (.int .i64 a.to) ∧ w'.cell? ⟨ba, 4, none⟩ = some (.int .i64 a.st) ∧ w'.cell? ⟨ba, 5, none⟩ = some (.int .i64 a.en) ∧ w'.cell? ⟨ba, 6, none⟩ = some (.int .i64 a.made) ∧ w'.cell? ⟨ba, 7, none⟩ = some (.int .i64 a.kind) ∧ w'.cell? ⟨ba, 8, none⟩ = some (.string (bstr a.team)) ∧ w'.cell? ⟨bb, 0, none⟩ = some (.string (bstr b.id)) ∧ w'.cell? ⟨bb, 1, none⟩ = some (.string (bstr b.pre)) ∧ w'.cell? ⟨bb, 2, none⟩ = some (.int .i64 b.frm) ∧ w'.cell? ⟨bb, 3, none⟩ = some (.int .i64 b.to) ∧ w'.cell? ⟨bb, 4, none⟩ = some (.int .i64 b.st) ∧ w'.cell? ⟨bb, 5, none⟩ = some (.int .i64 b.en) ∧ w'.cell? ⟨bb, 6, none⟩ = some (.int .i64 b.made) ∧ w'.cell? ⟨bb, 7, none⟩ = some (.int .i64 b.kind) ∧ w'.cell? ⟨bb, 8, none⟩ = some (.string (bstr b.team)))) := Lib.hid (fun w' hg => by
    have h1 := HKA.out.same (same_below hg) HKA.out.lt
    have h2 := HKB.out.same (same_below hg) HKB.out.lt
    exact ⟨h1.cell 0, h1.cell 1, h1.cell 2, h1.cell 3, h1.cell 4, h1.cell 5, h1.cell 6, h1.cell 7, h1.cell 8, h2.cell 0, h2.cell 1, h2.cell 2, h2.cell 3, h2.cell 4, h2.cell 5, h2.cell 6, h2.cell 7, h2.cell 8⟩)
  refine wp_region_held_drew (S := fun w' => w'.cell? ⟨ba, 0, none⟩ = some (.string (bstr a.id)) ∧ w'.cell? ⟨ba, 1, none⟩ = some (.string (bstr a.pre)) ∧ w'.cell? ⟨ba, 2, none⟩ = some (.int .i64 a.frm) ∧ w'.cell? ⟨ba, 3, none⟩ = some (.int .i64 a.to) ∧ w'.cell? ⟨ba, 4, none⟩ = some (.int .i64 a.st) ∧ w'.cell? ⟨ba, 5, none⟩ = some (.int .i64 a.en) ∧ w'.cell? ⟨ba, 6, none⟩ = some (.int .i64 a.made) ∧ w'.cell? ⟨ba, 7, none⟩ = some (.int .i64 a.kind) ∧ w'.cell? ⟨ba, 8, none⟩ = some (.string (bstr a.team)) ∧ w'.cell? ⟨bb, 0, none⟩ = some (.string (bstr b.id)) ∧ w'.cell? ⟨bb, 1, none⟩ = some (.string (bstr b.pre)) ∧ w'.cell? ⟨bb, 2, none⟩ = some (.int .i64 b.frm) ∧ w'.cell? ⟨bb, 3, none⟩ = some (.int .i64 b.to) ∧ w'.cell? ⟨bb, 4, none⟩ = some (.int .i64 b.st) ∧ w'.cell? ⟨bb, 5, none⟩ = some (.int .i64 b.en) ∧ w'.cell? ⟨bb, 6, none⟩ = some (.int .i64 b.made) ∧ w'.cell? ⟨bb, 7, none⟩ = some (.int .i64 b.kind) ∧ w'.cell? ⟨bb, 8, none⟩ = some (.string (bstr b.team))) (by kernel_rfl) (KEEP.out _ (Below.drew (Below.refl _ _))) (fun hHeld => ?_)
  obtain ⟨wq, hwq⟩ : ∃ wq, wq = w4.drew := ⟨_, rfl⟩
  have HG0 : Hid (Below w4.heap.size w4 wq) := Lib.hid (by rw [hwq]; exact Below.drew (Below.refl _ _))
  rw [← hwq] at hHeld ⊢
  clear hwq
  refine wpAnyH_take (i := 0) (v := ?_) rfl (by kernel_rfl) (by kernel_rfl) (by kernel_rfl) (fun _ _ _ h => h) (Or.inl ⟨by rfl, ?_⟩) (by assumption) ?_
  rotate_left
  · (intro w hSw; (try dsimp only at hSw); go_simp; try with_reducible rfl)
  try simp only [List.getElem_toArray, List.getElem_cons_succ, List.getElem_cons_zero, Act.put, List.setIfInBounds_toArray, List.set_cons_zero, List.set_cons_succ]
  refine wpAnyH_take (i := 1) (v := ?_) rfl (by kernel_rfl) (by kernel_rfl) (by kernel_rfl) (fun _ _ _ h => h) (Or.inl ⟨by rfl, ?_⟩) (by assumption) ?_
  rotate_left
  · (intro w hSw; (try dsimp only at hSw); go_simp; try with_reducible rfl)
  try simp only [List.getElem_toArray, List.getElem_cons_succ, List.getElem_cons_zero, Act.put, List.setIfInBounds_toArray, List.set_cons_zero, List.set_cons_succ]
  refine wpAnyH_take (i := 2) (v := ?_) rfl (by kernel_rfl) (by kernel_rfl) (by kernel_rfl) (fun _ _ _ h => h) (Or.inl ⟨by rfl, ?_⟩) (by assumption) ?_
  rotate_left
  · (intro w hSw; (try dsimp only at hSw); go_simp; try with_reducible rfl)
  try simp only [List.getElem_toArray, List.getElem_cons_succ, List.getElem_cons_zero, Act.put, List.setIfInBounds_toArray, List.set_cons_zero, List.set_cons_succ]
  refine wpAnyH_take (i := 3) (v := ?_) rfl (by kernel_rfl) (by kernel_rfl) (by kernel_rfl) (fun _ _ _ h => h) (Or.inl ⟨by rfl, ?_⟩) (by assumption) ?_
  rotate_left
  · (intro w hSw; (try dsimp only at hSw); go_simp; try with_reducible rfl)
  try simp only [List.getElem_toArray, List.getElem_cons_succ, List.getElem_cons_zero, Act.put, List.setIfInBounds_toArray, List.set_cons_zero, List.set_cons_succ]
  refine wpAnyH_take (i := 4) (v := ?_) rfl (by kernel_rfl) (by kernel_rfl) (by kernel_rfl) (fun _ _ _ h => h) (Or.inl ⟨by rfl, ?_⟩) (by assumption) ?_
  rotate_left
  · (intro w hSw; (try dsimp only at hSw); go_simp; try with_reducible rfl)
  try simp only [List.getElem_toArray, List.getElem_cons_succ, List.getElem_cons_zero, Act.put, List.setIfInBounds_toArray, List.set_cons_zero, List.set_cons_succ]
  refine wpAnyH_take (i := 5) (v := ?_) rfl (by kernel_rfl) (by kernel_rfl) (by kernel_rfl) (fun _ _ _ h => h) (Or.inl ⟨by rfl, ?_⟩) (by assumption) ?_
  rotate_left
  · (intro w hSw; (try dsimp only at hSw); go_simp; try with_reducible rfl)
  try simp only [List.getElem_toArray, List.getElem_cons_succ, List.getElem_cons_zero, Act.put, List.setIfInBounds_toArray, List.set_cons_zero, List.set_cons_succ]
  refine wpAnyH_take (i := 7) (v := ?_) rfl (by kernel_rfl) (by kernel_rfl) (by kernel_rfl) (fun _ _ _ h => h) (Or.inl ⟨by rfl, ?_⟩) (by assumption) ?_
  rotate_left
  · (intro w hSw; (try dsimp only at hSw); go_simp; try with_reducible rfl)
  try simp only [List.getElem_toArray, List.getElem_cons_succ, List.getElem_cons_zero, Act.put, List.setIfInBounds_toArray, List.set_cons_zero, List.set_cons_succ]
  refine wpAnyH_take (i := 8) (v := ?_) rfl (by kernel_rfl) (by kernel_rfl) (by kernel_rfl) (fun _ _ _ h => h) (Or.inl ⟨by rfl, ?_⟩) (by assumption) ?_
  rotate_left
  · (intro w hSw; (try dsimp only at hSw); go_simp; try with_reducible rfl)
  try simp only [List.getElem_toArray, List.getElem_cons_succ, List.getElem_cons_zero, Act.put, List.setIfInBounds_toArray, List.set_cons_zero, List.set_cons_succ]
  refine wpAnyH_take (i := 9) (v := ?_) rfl (by kernel_rfl) (by kernel_rfl) (by kernel_rfl) (fun _ _ _ h => h) (Or.inl ⟨by rfl, ?_⟩) (by assumption) ?_
  rotate_left
  · (intro w hSw; (try dsimp only at hSw); go_simp; try with_reducible rfl)
  try simp only [List.getElem_toArray, List.getElem_cons_succ, List.getElem_cons_zero, Act.put, List.setIfInBounds_toArray, List.set_cons_zero, List.set_cons_succ]
  refine wpAnyH_take (i := 10) (v := ?_) rfl (by kernel_rfl) (by kernel_rfl) (by kernel_rfl) (fun _ _ _ h => h) (Or.inl ⟨by rfl, ?_⟩) (by assumption) ?_
  rotate_left
  · (intro w hSw; (try dsimp only at hSw); go_simp; try with_reducible rfl)
  try simp only [List.getElem_toArray, List.getElem_cons_succ, List.getElem_cons_zero, Act.put, List.setIfInBounds_toArray, List.set_cons_zero, List.set_cons_succ]
  refine wpAnyH_take (i := 12) (v := ?_) rfl (by kernel_rfl) (by kernel_rfl) (by kernel_rfl) (fun _ _ _ h => h) (Or.inl ⟨by rfl, ?_⟩) (by assumption) ?_
  rotate_left
  · (intro w hSw; (try dsimp only at hSw); go_simp; try with_reducible rfl)
  try simp only [List.getElem_toArray, List.getElem_cons_succ, List.getElem_cons_zero, Act.put, List.setIfInBounds_toArray, List.set_cons_zero, List.set_cons_succ]
  refine wpAnyH_take (i := 14) (v := ?_) rfl (by kernel_rfl) (by kernel_rfl) (by kernel_rfl) (fun _ _ _ h => h) (Or.inl ⟨by rfl, ?_⟩) (by assumption) ?_
  rotate_left
  · (intro w hSw; (try dsimp only at hSw); go_simp; try with_reducible rfl)
  try simp only [List.getElem_toArray, List.getElem_cons_succ, List.getElem_cons_zero, Act.put, List.setIfInBounds_toArray, List.set_cons_zero, List.set_cons_succ]
  refine wpAnyH_take (i := 17) (v := ?_) rfl (by kernel_rfl) (by kernel_rfl) (by kernel_rfl) (fun _ _ _ h => h) (Or.inl ⟨by rfl, ?_⟩) (by assumption) ?_
  rotate_left
  · (intro w hSw; (try dsimp only at hSw); go_simp; try with_reducible rfl)
  try simp only [List.getElem_toArray, List.getElem_cons_succ, List.getElem_cons_zero, Act.put, List.setIfInBounds_toArray, List.set_cons_zero, List.set_cons_succ]
  refine wpAnyH_take (i := 18) (v := ?_) rfl (by kernel_rfl) (by kernel_rfl) (by kernel_rfl) (fun _ _ _ h => h) (Or.inl ⟨by rfl, ?_⟩) (by assumption) ?_
  rotate_left
  · (intro w hSw; (try dsimp only at hSw); go_simp; try with_reducible rfl)
  try simp only [List.getElem_toArray, List.getElem_cons_succ, List.getElem_cons_zero, Act.put, List.setIfInBounds_toArray, List.set_cons_zero, List.set_cons_succ]
  refine wpAnyH_take (i := 19) (v := ?_) rfl (by kernel_rfl) (by kernel_rfl) (by kernel_rfl) (fun _ _ _ h => h) (Or.inl ⟨by rfl, ?_⟩) (by assumption) ?_
  rotate_left
  · (intro w hSw; (try dsimp only at hSw); go_simp; try with_reducible rfl)
  try simp only [List.getElem_toArray, List.getElem_cons_succ, List.getElem_cons_zero, Act.put, List.setIfInBounds_toArray, List.set_cons_zero, List.set_cons_succ]
  refine wpAnyH_take (i := 20) (v := ?_) rfl (by kernel_rfl) (by kernel_rfl) (by kernel_rfl) (fun _ _ _ h => h) (Or.inl ⟨by rfl, ?_⟩) (by assumption) ?_
  rotate_left
  · (intro w hSw; (try dsimp only at hSw); go_simp; try with_reducible rfl)
  try simp only [List.getElem_toArray, List.getElem_cons_succ, List.getElem_cons_zero, Act.put, List.setIfInBounds_toArray, List.set_cons_zero, List.set_cons_succ]
  refine wpAnyH_ready (rs := [6]) (by kernel_rfl) (by simp) ?_
  refine AllReadyH.cons rfl (fun K hK => ?_) AllReadyH.nil
  rw [if_pos (by rfl)]
  simp only [List.getElem_toArray, List.getElem_cons_succ, List.getElem_cons_zero]
  go_simp
  go_at_call 25
  refine (icmp_any (b.pre.length : Int) (a.pre.length : Int) _).mono ?_
  rintro e wn1 ⟨rfl, hw⟩
  have HG1 : Hid (Below w4.heap.size w4 wn1) := Lib.hid (by rw [hw]; exact HG0.out)
  clear hw
  show K _ wn1
  refine hK.out _ _ (KEEP.out _ HG1.out) (fun hHeld => ?_)
  clear hK K
  try simp only [List.getElem_toArray, List.getElem_cons_succ, List.getElem_cons_zero, Act.put, List.setIfInBounds_toArray, List.set_cons_zero, List.set_cons_succ]
  refine wpAnyH_ready (rs := [11]) (by kernel_rfl) (by simp) ?_
  refine AllReadyH.cons rfl (fun K hK => ?_) AllReadyH.nil
  rw [if_pos (by rfl)]
  simp only [List.getElem_toArray, List.getElem_cons_succ, List.getElem_cons_zero]
  go_simp
  go_at_call 25
  refine (icmp_any b.made a.made _).mono ?_
  rintro e wn2 ⟨rfl, hw⟩
  have HG2 : Hid (Below w4.heap.size w4 wn2) := Lib.hid (by rw [hw]; exact HG1.out)
  clear hw
  show K _ wn2
  refine hK.out _ _ (KEEP.out _ HG2.out) (fun hHeld => ?_)
  clear hK K
  try simp only [List.getElem_toArray, List.getElem_cons_succ, List.getElem_cons_zero, Act.put, List.setIfInBounds_toArray, List.set_cons_zero, List.set_cons_succ]
  refine wpAnyH_ready (rs := [13]) (by kernel_rfl) (by simp) ?_
  refine AllReadyH.cons rfl (fun K hK => ?_) AllReadyH.nil
  rw [if_pos (by rfl)]
  simp only [List.getElem_toArray, List.getElem_cons_succ, List.getElem_cons_zero]
  go_simp
  go_at_call 26
  refine (none1_any b _).mono ?_
  rintro e wn3 ⟨rfl, hw⟩
  have HG3 : Hid (Below w4.heap.size w4 wn3) := Lib.hid (HG2.out.trans (hw.mono HG2.out.size))
  clear hw
  show K _ wn3
  refine hK.out _ _ (KEEP.out _ HG3.out) (fun hHeld => ?_)
  clear hK K
  try simp only [List.getElem_toArray, List.getElem_cons_succ, List.getElem_cons_zero, Act.put, List.setIfInBounds_toArray, List.set_cons_zero, List.set_cons_succ]
  refine wpAnyH_ready (rs := [15]) (by kernel_rfl) (by simp) ?_
  refine AllReadyH.cons rfl (fun K hK => ?_) AllReadyH.nil
  rw [if_pos (by rfl)]
  simp only [List.getElem_toArray, List.getElem_cons_succ, List.getElem_cons_zero]
  go_simp
  go_at_call 26
  refine (none1_any a _).mono ?_
  rintro e wn4 ⟨rfl, hw⟩
  have HG4 : Hid (Below w4.heap.size w4 wn4) := Lib.hid (HG3.out.trans (hw.mono HG3.out.size))
  clear hw
  show K _ wn4
  refine hK.out _ _ (KEEP.out _ HG4.out) (fun hHeld => ?_)
  clear hK K
  try simp only [List.getElem_toArray, List.getElem_cons_succ, List.getElem_cons_zero, Act.put, List.setIfInBounds_toArray, List.set_cons_zero, List.set_cons_succ]
  refine wpAnyH_ready (rs := [16]) (by kernel_rfl) (by simp) ?_
  refine AllReadyH.cons rfl (fun K hK => ?_) AllReadyH.nil
  rw [if_pos (by rfl)]
  simp only [List.getElem_toArray, List.getElem_cons_succ, List.getElem_cons_zero]
  go_simp
  go_at_call 25
  refine (icmp_any (none1 b) (none1 a) _).mono ?_
  rintro e wn5 ⟨rfl, hw⟩
  have HG5 : Hid (Below w4.heap.size w4 wn5) := Lib.hid (by rw [hw]; exact HG4.out)
  clear hw
  show K _ wn5
  refine hK.out _ _ (KEEP.out _ HG5.out) (fun hHeld => ?_)
  clear hK K
  try simp only [List.getElem_toArray, List.getElem_cons_succ, List.getElem_cons_zero, Act.put, List.setIfInBounds_toArray, List.set_cons_zero, List.set_cons_succ]
  refine wpAnyH_ready (rs := [21]) (by kernel_rfl) (by simp) ?_
  refine AllReadyH.cons rfl (fun K hK => ?_) AllReadyH.nil
  rw [if_pos (by rfl)]
  simp only [List.getElem_toArray, List.getElem_cons_succ, List.getElem_cons_zero]
  go_simp
  go_at_call 27
  refine (strCmp_any a.id b.id _).mono ?_
  rintro e wn6 ⟨rfl, hw⟩
  have HG6 : Hid (Below w4.heap.size w4 wn6) := Lib.hid (by rw [hw]; exact HG5.out)
  clear hw
  show K _ wn6
  refine hK.out _ _ (KEEP.out _ HG6.out) (fun hHeld => ?_)
  clear hK K
  try simp only [List.getElem_toArray, List.getElem_cons_succ, List.getElem_cons_zero, Act.put, List.setIfInBounds_toArray, List.set_cons_zero, List.set_cons_succ]
  refine wpAnyH_ready (rs := [22]) (by kernel_rfl) (by simp) ?_
  refine AllReadyH.cons rfl (fun K hK => ?_) AllReadyH.nil
  rw [if_pos (by rfl)]
  simp only [List.getElem_toArray, List.getElem_cons_succ, List.getElem_cons_zero]
  go_simp
  refine hK.out _ _ (KEEP.out _ (HG6.out.alloc HG6.out.size _)) (fun hHeld => ?_)
  clear hK K
  try simp only [List.getElem_toArray, List.getElem_cons_succ, List.getElem_cons_zero, Act.put, List.setIfInBounds_toArray, List.set_cons_zero, List.set_cons_succ]
  refine wpAnyH_ready (rs := [23]) (by kernel_rfl) (by simp) ?_
  refine AllReadyH.cons rfl (fun K hK => ?_) AllReadyH.nil
  rw [if_pos (by rfl)]
  simp only [List.getElem_toArray, List.getElem_cons_succ, List.getElem_cons_zero]
  go_simp
  go_at_call 24
  refine (orL_any _ [icmp (b.pre.length : Int) (a.pre.length : Int), icmp b.made a.made, icmp (none1 b) (none1 a), scmp a.id b.id] 3 4 rfl _ (Blk.new _ _ _) (by simp)).mono ?_
  rintro e wz ⟨rfl, hw⟩
  have HGZ : Hid (Below w4.heap.size w4 wz) := Lib.hid (by rw [hw]; exact HG6.out.alloc HG6.out.size _)
  clear hw
  show K _ wz
  refine hK.out _ _ (KEEP.out _ HGZ.out) (fun hHeld => ?_)
  clear hK K
  try simp only [List.getElem_toArray, List.getElem_cons_succ, List.getElem_cons_zero, Act.put, List.setIfInBounds_toArray, List.set_cons_zero, List.set_cons_succ]
  refine wpAnyH_take (i := 24) (v := ?_) rfl (by kernel_rfl) (by kernel_rfl) (by kernel_rfl) (fun _ _ _ h => h) (Or.inl ⟨by rfl, ?_⟩) (by assumption) ?_
  rotate_left
  · (intro w hSw; (try dsimp only at hSw); go_simp; try with_reducible rfl)
  try simp only [List.getElem_toArray, List.getElem_cons_succ, List.getElem_cons_zero, Act.put, List.setIfInBounds_toArray, List.set_cons_zero, List.set_cons_succ]
  refine wpAnyH_done (by kernel_rfl) ?_ _
  clear hHeld KEEP
  go_wp2_with fail
  go_ret
  exact ⟨by rw [HF.out]; rfl, HB.out.trans (HGZ.out.mono HB.out.size)⟩
set_option maxRecDepth 100000 in
set_option maxHeartbeats 2000000 in
theorem nearTop_any (a b : Rgt) (w : World) (ha1 : a.id.length ≤ 9223372036854775807) (ha2 : a.pre.length ≤ 9223372036854775807) (ha3 : a.team.length ≤ 9223372036854775807) (hb1 : b.id.length ≤ 9223372036854775807) (hb2 : b.pre.length ≤ 9223372036854775807) (hb3 : b.team.length ≤ 9223372036854775807) :
    Calls Tryd.prog 5 #[.agg #[.string (bstr a.id), .string (bstr a.pre), .int .i64 a.frm, .int .i64 a.to, .int .i64 a.st, .int .i64 a.en, .int .i64 a.made, .int .i64 a.kind, .string (bstr a.team)], .agg #[.string (bstr b.id), .string (bstr b.pre), .int .i64 b.frm, .int .i64 b.to, .int .i64 b.st, .int .i64 b.en, .int .i64 b.made, .int .i64 b.kind, .string (bstr b.team)]] w fun e w' => e = .returned (.tuple #[.int .i64 (nearTop a b).1, .int .i64 (nearTop a b).2]) ∧ Below w.heap.size w w' := by
  have hl1 := (Below.refl w.heap.size w).alloc (Nat.le_refl _) (.cells #[.string (bstr a.id), .string (bstr a.pre), .int .i64 a.frm, .int .i64 a.to, .int .i64 a.st, .int .i64 a.en, .int .i64 a.made, .int .i64 a.kind, .string (bstr a.team)] 23)
  have hl2 := (Below.refl (w.alloc (.cells #[.string (bstr a.id), .string (bstr a.pre), .int .i64 a.frm, .int .i64 a.to, .int .i64 a.st, .int .i64 a.en, .int .i64 a.made, .int .i64 a.kind, .string (bstr a.team)] 23)).heap.size _).alloc (Nat.le_refl _) (.cells #[.string (bstr b.id), .string (bstr b.pre), .int .i64 b.frm, .int .i64 b.to, .int .i64 b.st, .int .i64 b.en, .int .i64 b.made, .int .i64 b.kind, .string (bstr b.team)] 23)
  have HB := Lib.hid (hl1.trans (hl2.mono (by simp)))
  have hka : Blk ((w.alloc (.cells #[.string (bstr a.id), .string (bstr a.pre), .int .i64 a.frm, .int .i64 a.to, .int .i64 a.st, .int .i64 a.en, .int .i64 a.made, .int .i64 a.kind, .string (bstr a.team)] 23)).alloc (.cells #[.string (bstr b.id), .string (bstr b.pre), .int .i64 b.frm, .int .i64 b.to, .int .i64 b.st, .int .i64 b.en, .int .i64 b.made, .int .i64 b.kind, .string (bstr b.team)] 23)) w.heap.size 23 (rgtCells a) := (Blk.new w 23 (rgtCells a)).same (same_below hl2) (by simp)
  have hkb : Blk ((w.alloc (.cells #[.string (bstr a.id), .string (bstr a.pre), .int .i64 a.frm, .int .i64 a.to, .int .i64 a.st, .int .i64 a.en, .int .i64 a.made, .int .i64 a.kind, .string (bstr a.team)] 23)).alloc (.cells #[.string (bstr b.id), .string (bstr b.pre), .int .i64 b.frm, .int .i64 b.to, .int .i64 b.st, .int .i64 b.en, .int .i64 b.made, .int .i64 b.kind, .string (bstr b.team)] 23)) (w.heap.size + 1) 23 (rgtCells b) := by
    have := Blk.new (w.alloc (.cells #[.string (bstr a.id), .string (bstr a.pre), .int .i64 a.frm, .int .i64 a.to, .int .i64 a.st, .int .i64 a.en, .int .i64 a.made, .int .i64 a.kind, .string (bstr a.team)] 23)) 23 (rgtCells b)
    rwa [World.size_alloc] at this
  have HKA := Lib.hid hka
  have HKB := Lib.hid hkb
  clear hl1 hl2 hka hkb
  go_enter Tryd.func5, Tryd.ntmps5
  have x0 : ((w.alloc (.cells #[.string (bstr a.id), .string (bstr a.pre), .int .i64 a.frm, .int .i64 a.to, .int .i64 a.st, .int .i64 a.en, .int .i64 a.made, .int .i64 a.kind, .string (bstr a.team)] 23)).alloc (.cells #[.string (bstr b.id), .string (bstr b.pre), .int .i64 b.frm, .int .i64 b.to, .int .i64 b.st, .int .i64 b.en, .int .i64 b.made, .int .i64 b.kind, .string (bstr b.team)] 23)).cell? ⟨w.heap.size, 0, none⟩ = some (.string (bstr a.id)) := HKA.out.cell 0
  have x1 : ((w.alloc (.cells #[.string (bstr a.id), .string (bstr a.pre), .int .i64 a.frm, .int .i64 a.to, .int .i64 a.st, .int .i64 a.en, .int .i64 a.made, .int .i64 a.kind, .string (bstr a.team)] 23)).alloc (.cells #[.string (bstr b.id), .string (bstr b.pre), .int .i64 b.frm, .int .i64 b.to, .int .i64 b.st, .int .i64 b.en, .int .i64 b.made, .int .i64 b.kind, .string (bstr b.team)] 23)).cell? ⟨w.heap.size, 1, none⟩ = some (.string (bstr a.pre)) := HKA.out.cell 1
  have x2 : ((w.alloc (.cells #[.string (bstr a.id), .string (bstr a.pre), .int .i64 a.frm, .int .i64 a.to, .int .i64 a.st, .int .i64 a.en, .int .i64 a.made, .int .i64 a.kind, .string (bstr a.team)] 23)).alloc (.cells #[.string (bstr b.id), .string (bstr b.pre), .int .i64 b.frm, .int .i64 b.to, .int .i64 b.st, .int .i64 b.en, .int .i64 b.made, .int .i64 b.kind, .string (bstr b.team)] 23)).cell? ⟨w.heap.size, 2, none⟩ = some (.int .i64 a.frm) := HKA.out.cell 2
  have x3 : ((w.alloc (.cells #[.string (bstr a.id), .string (bstr a.pre), .int .i64 a.frm, .int .i64 a.to, .int .i64 a.st, .int .i64 a.en, .int .i64 a.made, .int .i64 a.kind, .string (bstr a.team)] 23)).alloc (.cells #[.string (bstr b.id), .string (bstr b.pre), .int .i64 b.frm, .int .i64 b.to, .int .i64 b.st, .int .i64 b.en, .int .i64 b.made, .int .i64 b.kind, .string (bstr b.team)] 23)).cell? ⟨w.heap.size, 3, none⟩ = some (.int .i64 a.to) := HKA.out.cell 3
  have x4 : ((w.alloc (.cells #[.string (bstr a.id), .string (bstr a.pre), .int .i64 a.frm, .int .i64 a.to, .int .i64 a.st, .int .i64 a.en, .int .i64 a.made, .int .i64 a.kind, .string (bstr a.team)] 23)).alloc (.cells #[.string (bstr b.id), .string (bstr b.pre), .int .i64 b.frm, .int .i64 b.to, .int .i64 b.st, .int .i64 b.en, .int .i64 b.made, .int .i64 b.kind, .string (bstr b.team)] 23)).cell? ⟨w.heap.size, 4, none⟩ = some (.int .i64 a.st) := HKA.out.cell 4
  have x5 : ((w.alloc (.cells #[.string (bstr a.id), .string (bstr a.pre), .int .i64 a.frm, .int .i64 a.to, .int .i64 a.st, .int .i64 a.en, .int .i64 a.made, .int .i64 a.kind, .string (bstr a.team)] 23)).alloc (.cells #[.string (bstr b.id), .string (bstr b.pre), .int .i64 b.frm, .int .i64 b.to, .int .i64 b.st, .int .i64 b.en, .int .i64 b.made, .int .i64 b.kind, .string (bstr b.team)] 23)).cell? ⟨w.heap.size, 5, none⟩ = some (.int .i64 a.en) := HKA.out.cell 5
  have x6 : ((w.alloc (.cells #[.string (bstr a.id), .string (bstr a.pre), .int .i64 a.frm, .int .i64 a.to, .int .i64 a.st, .int .i64 a.en, .int .i64 a.made, .int .i64 a.kind, .string (bstr a.team)] 23)).alloc (.cells #[.string (bstr b.id), .string (bstr b.pre), .int .i64 b.frm, .int .i64 b.to, .int .i64 b.st, .int .i64 b.en, .int .i64 b.made, .int .i64 b.kind, .string (bstr b.team)] 23)).cell? ⟨w.heap.size, 6, none⟩ = some (.int .i64 a.made) := HKA.out.cell 6
  have x7 : ((w.alloc (.cells #[.string (bstr a.id), .string (bstr a.pre), .int .i64 a.frm, .int .i64 a.to, .int .i64 a.st, .int .i64 a.en, .int .i64 a.made, .int .i64 a.kind, .string (bstr a.team)] 23)).alloc (.cells #[.string (bstr b.id), .string (bstr b.pre), .int .i64 b.frm, .int .i64 b.to, .int .i64 b.st, .int .i64 b.en, .int .i64 b.made, .int .i64 b.kind, .string (bstr b.team)] 23)).cell? ⟨w.heap.size, 7, none⟩ = some (.int .i64 a.kind) := HKA.out.cell 7
  have x8 : ((w.alloc (.cells #[.string (bstr a.id), .string (bstr a.pre), .int .i64 a.frm, .int .i64 a.to, .int .i64 a.st, .int .i64 a.en, .int .i64 a.made, .int .i64 a.kind, .string (bstr a.team)] 23)).alloc (.cells #[.string (bstr b.id), .string (bstr b.pre), .int .i64 b.frm, .int .i64 b.to, .int .i64 b.st, .int .i64 b.en, .int .i64 b.made, .int .i64 b.kind, .string (bstr b.team)] 23)).cell? ⟨w.heap.size, 8, none⟩ = some (.string (bstr a.team)) := HKA.out.cell 8
  have y0 : ((w.alloc (.cells #[.string (bstr a.id), .string (bstr a.pre), .int .i64 a.frm, .int .i64 a.to, .int .i64 a.st, .int .i64 a.en, .int .i64 a.made, .int .i64 a.kind, .string (bstr a.team)] 23)).alloc (.cells #[.string (bstr b.id), .string (bstr b.pre), .int .i64 b.frm, .int .i64 b.to, .int .i64 b.st, .int .i64 b.en, .int .i64 b.made, .int .i64 b.kind, .string (bstr b.team)] 23)).cell? ⟨w.heap.size + 1, 0, none⟩ = some (.string (bstr b.id)) := HKB.out.cell 0
  have y1 : ((w.alloc (.cells #[.string (bstr a.id), .string (bstr a.pre), .int .i64 a.frm, .int .i64 a.to, .int .i64 a.st, .int .i64 a.en, .int .i64 a.made, .int .i64 a.kind, .string (bstr a.team)] 23)).alloc (.cells #[.string (bstr b.id), .string (bstr b.pre), .int .i64 b.frm, .int .i64 b.to, .int .i64 b.st, .int .i64 b.en, .int .i64 b.made, .int .i64 b.kind, .string (bstr b.team)] 23)).cell? ⟨w.heap.size + 1, 1, none⟩ = some (.string (bstr b.pre)) := HKB.out.cell 1
  have y2 : ((w.alloc (.cells #[.string (bstr a.id), .string (bstr a.pre), .int .i64 a.frm, .int .i64 a.to, .int .i64 a.st, .int .i64 a.en, .int .i64 a.made, .int .i64 a.kind, .string (bstr a.team)] 23)).alloc (.cells #[.string (bstr b.id), .string (bstr b.pre), .int .i64 b.frm, .int .i64 b.to, .int .i64 b.st, .int .i64 b.en, .int .i64 b.made, .int .i64 b.kind, .string (bstr b.team)] 23)).cell? ⟨w.heap.size + 1, 2, none⟩ = some (.int .i64 b.frm) := HKB.out.cell 2
  have y3 : ((w.alloc (.cells #[.string (bstr a.id), .string (bstr a.pre), .int .i64 a.frm, .int .i64 a.to, .int .i64 a.st, .int .i64 a.en, .int .i64 a.made, .int .i64 a.kind, .string (bstr a.team)] 23)).alloc (.cells #[.string (bstr b.id), .string (bstr b.pre), .int .i64 b.frm, .int .i64 b.to, .int .i64 b.st, .int .i64 b.en, .int .i64 b.made, .int .i64 b.kind, .string (bstr b.team)] 23)).cell? ⟨w.heap.size + 1, 3, none⟩ = some (.int .i64 b.to) := HKB.out.cell 3
  have y4 : ((w.alloc (.cells #[.string (bstr a.id), .string (bstr a.pre), .int .i64 a.frm, .int .i64 a.to, .int .i64 a.st, .int .i64 a.en, .int .i64 a.made, .int .i64 a.kind, .string (bstr a.team)] 23)).alloc (.cells #[.string (bstr b.id), .string (bstr b.pre), .int .i64 b.frm, .int .i64 b.to, .int .i64 b.st, .int .i64 b.en, .int .i64 b.made, .int .i64 b.kind, .string (bstr b.team)] 23)).cell? ⟨w.heap.size + 1, 4, none⟩ = some (.int .i64 b.st) := HKB.out.cell 4
  have y5 : ((w.alloc (.cells #[.string (bstr a.id), .string (bstr a.pre), .int .i64 a.frm, .int .i64 a.to, .int .i64 a.st, .int .i64 a.en, .int .i64 a.made, .int .i64 a.kind, .string (bstr a.team)] 23)).alloc (.cells #[.string (bstr b.id), .string (bstr b.pre), .int .i64 b.frm, .int .i64 b.to, .int .i64 b.st, .int .i64 b.en, .int .i64 b.made, .int .i64 b.kind, .string (bstr b.team)] 23)).cell? ⟨w.heap.size + 1, 5, none⟩ = some (.int .i64 b.en) := HKB.out.cell 5
  have y6 : ((w.alloc (.cells #[.string (bstr a.id), .string (bstr a.pre), .int .i64 a.frm, .int .i64 a.to, .int .i64 a.st, .int .i64 a.en, .int .i64 a.made, .int .i64 a.kind, .string (bstr a.team)] 23)).alloc (.cells #[.string (bstr b.id), .string (bstr b.pre), .int .i64 b.frm, .int .i64 b.to, .int .i64 b.st, .int .i64 b.en, .int .i64 b.made, .int .i64 b.kind, .string (bstr b.team)] 23)).cell? ⟨w.heap.size + 1, 6, none⟩ = some (.int .i64 b.made) := HKB.out.cell 6
  have y7 : ((w.alloc (.cells #[.string (bstr a.id), .string (bstr a.pre), .int .i64 a.frm, .int .i64 a.to, .int .i64 a.st, .int .i64 a.en, .int .i64 a.made, .int .i64 a.kind, .string (bstr a.team)] 23)).alloc (.cells #[.string (bstr b.id), .string (bstr b.pre), .int .i64 b.frm, .int .i64 b.to, .int .i64 b.st, .int .i64 b.en, .int .i64 b.made, .int .i64 b.kind, .string (bstr b.team)] 23)).cell? ⟨w.heap.size + 1, 7, none⟩ = some (.int .i64 b.kind) := HKB.out.cell 7
  have y8 : ((w.alloc (.cells #[.string (bstr a.id), .string (bstr a.pre), .int .i64 a.frm, .int .i64 a.to, .int .i64 a.st, .int .i64 a.en, .int .i64 a.made, .int .i64 a.kind, .string (bstr a.team)] 23)).alloc (.cells #[.string (bstr b.id), .string (bstr b.pre), .int .i64 b.frm, .int .i64 b.to, .int .i64 b.st, .int .i64 b.en, .int .i64 b.made, .int .i64 b.kind, .string (bstr b.team)] 23)).cell? ⟨w.heap.size + 1, 8, none⟩ = some (.string (bstr b.team)) := HKB.out.cell 8
  go_wp2_with fail
  refine (checkRight_any a _ ha1 ha2 ha3).mono ?_
  rintro e w5 ⟨rfl, hb⟩
  have HB5 := Lib.hid (HB.out.trans (hb.mono HB.out.size))
  have HKA5 := Lib.hid (HKA.out.same (same_below hb) HKA.out.lt)
  have HKB5 := Lib.hid (HKB.out.same (same_below hb) HKB.out.lt)
  clear hb HKA HKB x0 y0 x1 y1 x2 y2 x3 y3 x4 y4 x5 y5 x6 y6 x7 y7 x8 y8
  by_cases hf : rgF a = 0
  case neg =>
    have HP : Hid (nearTop a b = (0, rgF a)) := Lib.hid (if_pos hf)
    have hn : (rgF a != 0) = true := by simpa using hf
    clear hf
    generalize rgF a = f at *
    go_wp2_with fail
    go_ret2
    exact ⟨by rw [HP.out]; rfl, HB5.out⟩
  rw [hf]
  have x0 : w5.cell? ⟨w.heap.size, 0, none⟩ = some (.string (bstr a.id)) := HKA5.out.cell 0
  have x1 : w5.cell? ⟨w.heap.size, 1, none⟩ = some (.string (bstr a.pre)) := HKA5.out.cell 1
  have x2 : w5.cell? ⟨w.heap.size, 2, none⟩ = some (.int .i64 a.frm) := HKA5.out.cell 2
  have x3 : w5.cell? ⟨w.heap.size, 3, none⟩ = some (.int .i64 a.to) := HKA5.out.cell 3
  have x4 : w5.cell? ⟨w.heap.size, 4, none⟩ = some (.int .i64 a.st) := HKA5.out.cell 4
  have x5 : w5.cell? ⟨w.heap.size, 5, none⟩ = some (.int .i64 a.en) := HKA5.out.cell 5
  have x6 : w5.cell? ⟨w.heap.size, 6, none⟩ = some (.int .i64 a.made) := HKA5.out.cell 6
  have x7 : w5.cell? ⟨w.heap.size, 7, none⟩ = some (.int .i64 a.kind) := HKA5.out.cell 7
  have x8 : w5.cell? ⟨w.heap.size, 8, none⟩ = some (.string (bstr a.team)) := HKA5.out.cell 8
  have y0 : w5.cell? ⟨w.heap.size + 1, 0, none⟩ = some (.string (bstr b.id)) := HKB5.out.cell 0
  have y1 : w5.cell? ⟨w.heap.size + 1, 1, none⟩ = some (.string (bstr b.pre)) := HKB5.out.cell 1
  have y2 : w5.cell? ⟨w.heap.size + 1, 2, none⟩ = some (.int .i64 b.frm) := HKB5.out.cell 2
  have y3 : w5.cell? ⟨w.heap.size + 1, 3, none⟩ = some (.int .i64 b.to) := HKB5.out.cell 3
  have y4 : w5.cell? ⟨w.heap.size + 1, 4, none⟩ = some (.int .i64 b.st) := HKB5.out.cell 4
  have y5 : w5.cell? ⟨w.heap.size + 1, 5, none⟩ = some (.int .i64 b.en) := HKB5.out.cell 5
  have y6 : w5.cell? ⟨w.heap.size + 1, 6, none⟩ = some (.int .i64 b.made) := HKB5.out.cell 6
  have y7 : w5.cell? ⟨w.heap.size + 1, 7, none⟩ = some (.int .i64 b.kind) := HKB5.out.cell 7
  have y8 : w5.cell? ⟨w.heap.size + 1, 8, none⟩ = some (.string (bstr b.team)) := HKB5.out.cell 8
  go_wp2_with fail
  refine (checkRight_any b _ hb1 hb2 hb3).mono ?_
  rintro e w6 ⟨rfl, hb⟩
  have HB6 := Lib.hid (HB5.out.trans (hb.mono HB5.out.size))
  have HKA6 := Lib.hid (HKA5.out.same (same_below hb) HKA5.out.lt)
  have HKB6 := Lib.hid (HKB5.out.same (same_below hb) HKB5.out.lt)
  clear hb HKA5 HKB5 HB5 x0 y0 x1 y1 x2 y2 x3 y3 x4 y4 x5 y5 x6 y6 x7 y7 x8 y8
  by_cases hg : rgF b = 0
  case neg =>
    have HP : Hid (nearTop a b = (0, rgF b)) := Lib.hid (by rw [nearTop, if_neg (by rw [hf]; decide), if_pos hg])
    have hn : (rgF b != 0) = true := by simpa using hg
    clear hf hg
    generalize rgF b = f at *
    go_wp2_with fail
    go_ret2
    exact ⟨by rw [HP.out]; rfl, HB6.out⟩
  rw [hg]
  have HP : Hid (nearTop a b = (near a b, 0)) := Lib.hid (by rw [nearTop, if_neg (by rw [hf]; decide), if_neg (by rw [hg]; decide)])
  clear hf hg
  have x0 : w6.cell? ⟨w.heap.size, 0, none⟩ = some (.string (bstr a.id)) := HKA6.out.cell 0
  have x1 : w6.cell? ⟨w.heap.size, 1, none⟩ = some (.string (bstr a.pre)) := HKA6.out.cell 1
  have x2 : w6.cell? ⟨w.heap.size, 2, none⟩ = some (.int .i64 a.frm) := HKA6.out.cell 2
  have x3 : w6.cell? ⟨w.heap.size, 3, none⟩ = some (.int .i64 a.to) := HKA6.out.cell 3
  have x4 : w6.cell? ⟨w.heap.size, 4, none⟩ = some (.int .i64 a.st) := HKA6.out.cell 4
  have x5 : w6.cell? ⟨w.heap.size, 5, none⟩ = some (.int .i64 a.en) := HKA6.out.cell 5
  have x6 : w6.cell? ⟨w.heap.size, 6, none⟩ = some (.int .i64 a.made) := HKA6.out.cell 6
  have x7 : w6.cell? ⟨w.heap.size, 7, none⟩ = some (.int .i64 a.kind) := HKA6.out.cell 7
  have x8 : w6.cell? ⟨w.heap.size, 8, none⟩ = some (.string (bstr a.team)) := HKA6.out.cell 8
  have y0 : w6.cell? ⟨w.heap.size + 1, 0, none⟩ = some (.string (bstr b.id)) := HKB6.out.cell 0
  have y1 : w6.cell? ⟨w.heap.size + 1, 1, none⟩ = some (.string (bstr b.pre)) := HKB6.out.cell 1
  have y2 : w6.cell? ⟨w.heap.size + 1, 2, none⟩ = some (.int .i64 b.frm) := HKB6.out.cell 2
  have y3 : w6.cell? ⟨w.heap.size + 1, 3, none⟩ = some (.int .i64 b.to) := HKB6.out.cell 3
  have y4 : w6.cell? ⟨w.heap.size + 1, 4, none⟩ = some (.int .i64 b.st) := HKB6.out.cell 4
  have y5 : w6.cell? ⟨w.heap.size + 1, 5, none⟩ = some (.int .i64 b.en) := HKB6.out.cell 5
  have y6 : w6.cell? ⟨w.heap.size + 1, 6, none⟩ = some (.int .i64 b.made) := HKB6.out.cell 6
  have y7 : w6.cell? ⟨w.heap.size + 1, 7, none⟩ = some (.int .i64 b.kind) := HKB6.out.cell 7
  have y8 : w6.cell? ⟨w.heap.size + 1, 8, none⟩ = some (.string (bstr b.team)) := HKB6.out.cell 8
  go_wp2_with fail
  refine (near_any a b _).mono ?_
  rintro e w7 ⟨rfl, hb⟩
  have HB7 := Lib.hid (HB6.out.trans (hb.mono HB6.out.size))
  clear hb
  generalize near a b = nr at *
  go_wp2_with fail
  go_ret2
  exact ⟨by rw [HP.out]; rfl, HB7.out⟩
end Go.Proofs.YtobgkmkapknppaaDoor
