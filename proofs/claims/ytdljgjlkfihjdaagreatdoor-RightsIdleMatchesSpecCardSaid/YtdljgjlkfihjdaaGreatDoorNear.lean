/-
  'nearer' and 'Nearer' of package rights.
-/
import Derived.Test.YtdljgjlkfihjdaaGreatDoorRgtC
import Derived.Deep.RegionHeld3
namespace Go.Proofs.YtdljgjlkfihjdaaGreatDoor
open Go.RowKit
set_option linter.unusedVariables false
set_option linter.unusedSimpArgs false

set_option maxRecDepth 100000 in
set_option maxHeartbeats 4000000 in
theorem near_any (a b : Rgt) (w : World) :
    Calls Tryz.prog 25 #[.agg #[.string (bstr a.id), .string (bstr a.pre), .int .i64 a.frm, .int .i64 a.to, .int .i64 a.st, .int .i64 a.en, .int .i64 a.made, .int .i64 a.kind, .string (bstr a.team)], .agg #[.string (bstr b.id), .string (bstr b.pre), .int .i64 b.frm, .int .i64 b.to, .int .i64 b.st, .int .i64 b.en, .int .i64 b.made, .int .i64 b.kind, .string (bstr b.team)]] w fun e w' => e = .returned (.int .i64 (near a b)) ∧ Below w.heap.size w w' := by
  have hb1 := (Below.refl w.heap.size w).alloc (Nat.le_refl _) (.cells #[.string (bstr a.id), .string (bstr a.pre), .int .i64 a.frm, .int .i64 a.to, .int .i64 a.st, .int .i64 a.en, .int .i64 a.made, .int .i64 a.kind, .string (bstr a.team)] 38)
  have hb2 := (Below.refl (w.alloc (.cells #[.string (bstr a.id), .string (bstr a.pre), .int .i64 a.frm, .int .i64 a.to, .int .i64 a.st, .int .i64 a.en, .int .i64 a.made, .int .i64 a.kind, .string (bstr a.team)] 38)).heap.size _).alloc (Nat.le_refl _) (.cells #[.string (bstr b.id), .string (bstr b.pre), .int .i64 b.frm, .int .i64 b.to, .int .i64 b.st, .int .i64 b.en, .int .i64 b.made, .int .i64 b.kind, .string (bstr b.team)] 38)
  have HB := Lib.hid (hb1.trans (hb2.mono (by simp)))
  have hka : Blk ((w.alloc (.cells #[.string (bstr a.id), .string (bstr a.pre), .int .i64 a.frm, .int .i64 a.to, .int .i64 a.st, .int .i64 a.en, .int .i64 a.made, .int .i64 a.kind, .string (bstr a.team)] 38)).alloc (.cells #[.string (bstr b.id), .string (bstr b.pre), .int .i64 b.frm, .int .i64 b.to, .int .i64 b.st, .int .i64 b.en, .int .i64 b.made, .int .i64 b.kind, .string (bstr b.team)] 38)) w.heap.size 38 (rgtCells a) := (Blk.new w 38 (rgtCells a)).same (same_below hb2) (by simp)
  have hkb : Blk ((w.alloc (.cells #[.string (bstr a.id), .string (bstr a.pre), .int .i64 a.frm, .int .i64 a.to, .int .i64 a.st, .int .i64 a.en, .int .i64 a.made, .int .i64 a.kind, .string (bstr a.team)] 38)).alloc (.cells #[.string (bstr b.id), .string (bstr b.pre), .int .i64 b.frm, .int .i64 b.to, .int .i64 b.st, .int .i64 b.en, .int .i64 b.made, .int .i64 b.kind, .string (bstr b.team)] 38)) (w.heap.size + 1) 38 (rgtCells b) := by
    have := Blk.new (w.alloc (.cells #[.string (bstr a.id), .string (bstr a.pre), .int .i64 a.frm, .int .i64 a.to, .int .i64 a.st, .int .i64 a.en, .int .i64 a.made, .int .i64 a.kind, .string (bstr a.team)] 38)) 38 (rgtCells b)
    rwa [World.size_alloc] at this
  have HKA := Lib.hid hka
  have HKB := Lib.hid hkb
  have HF : Hid (near a b = orL [icmp (b.pre.length : Int) (a.pre.length : Int), icmp b.made a.made, icmp (none1 b) (none1 a), scmp a.id b.id]) := Lib.hid rfl
  clear hb1 hb2 hka hkb
  go_enter Tryz.func25, Tryz.ntmps25
  go_wp2_with fail
  obtain ⟨ba, hba⟩ : ∃ ba, w.heap.size = ba := ⟨_, rfl⟩
  obtain ⟨bb, hbb⟩ : ∃ bb, ba + 1 = bb := ⟨_, rfl⟩
  rw [hba] at HKA HKB ⊢
  rw [hbb] at HKB ⊢
  generalize (w.alloc (.cells #[.string (bstr a.id), .string (bstr a.pre), .int .i64 a.frm, .int .i64 a.to, .int .i64 a.st, .int .i64 a.en, .int .i64 a.made, .int .i64 a.kind, .string (bstr a.team)] 38)).alloc (.cells #[.string (bstr b.id), .string (bstr b.pre), .int .i64 b.frm, .int .i64 b.to, .int .i64 b.st, .int .i64 b.en, .int .i64 b.made, .int .i64 b.kind, .string (bstr b.team)] 38) = w4 at *
  clear hba hbb
  have KEEP : Hid (∀ w', Below w4.heap.size w4 w' → (w'.cell? ⟨ba, 0, none⟩ = some (.string (bstr a.id)) ∧ w'.cell? ⟨ba, 1, none⟩ = some (.string (bstr a.pre)) ∧ w'.cell? ⟨ba, 2, none⟩ = some (.int .i64 a.frm) ∧ w'.cell? ⟨ba, 3, none⟩ = some (.int .i64 a.to) ∧ w'.cell? ⟨ba, 4, none⟩ = some (.int .i64 a.st) ∧ w'.cell? ⟨ba, 5, none⟩ = some (.int .i64 a.en) ∧ w'.cell? ⟨ba, 6, none⟩ = some (.int .i64 a.made) ∧ w'.cell? ⟨ba, 7, none⟩ = some (.int .i64 a.kind) ∧ w'.cell? ⟨ba, 8, none⟩ = some (.string (bstr a.team)) ∧ w'.cell? ⟨bb, 0, none⟩ = some (.string (bstr b.id)) ∧ w'.cell? ⟨bb, 1, none⟩ = some (.string (bstr b.pre)) ∧ w'.cell? ⟨bb, 2, none⟩ = some (.int .i64 b.frm) ∧ w'.cell? ⟨bb, 3, none⟩ = some (.int .i64 b.to) ∧ w'.cell? ⟨bb, 4, none⟩ = some (.int .i64 b.st) ∧ w'.cell? ⟨bb, 5, none⟩ = some (.int .i64 b.en) ∧ w'.cell? ⟨bb, 6, none⟩ = some (.int .i64 b.made) ∧ w'.cell? ⟨bb, 7, none⟩ = some (.int .i64 b.kind) ∧ w'.cell? ⟨bb, 8, none⟩ = some (.string (bstr b.team)))) := Lib.hid (fun w' hg => by
    have h1 := HKA.out.same (same_below hg) HKA.out.lt
    have h2 := HKB.out.same (same_below hg) HKB.out.lt
    exact ⟨h1.cell 0, h1.cell 1, h1.cell 2, h1.cell 3, h1.cell 4, h1.cell 5, h1.cell 6, h1.cell 7, h1.cell 8, h2.cell 0, h2.cell 1, h2.cell 2, h2.cell 3, h2.cell 4, h2.cell 5, h2.cell 6, h2.cell 7, h2.cell 8⟩)
  refine wp_region_held_drew (S := fun w' => w'.cell? ⟨ba, 0, none⟩ = some (.string (bstr a.id)) ∧ w'.cell? ⟨ba, 1, none⟩ = some (.string (bstr a.pre)) ∧ w'.cell? ⟨ba, 2, none⟩ = some (.int .i64 a.frm) ∧ w'.cell? ⟨ba, 3, none⟩ = some (.int .i64 a.to) ∧ w'.cell? ⟨ba, 4, none⟩ = some (.int .i64 a.st) ∧ w'.cell? ⟨ba, 5, none⟩ = some (.int .i64 a.en) ∧ w'.cell? ⟨ba, 6, none⟩ = some (.int .i64 a.made) ∧ w'.cell? ⟨ba, 7, none⟩ = some (.int .i64 a.kind) ∧ w'.cell? ⟨ba, 8, none⟩ = some (.string (bstr a.team)) ∧ w'.cell? ⟨bb, 0, none⟩ = some (.string (bstr b.id)) ∧ w'.cell? ⟨bb, 1, none⟩ = some (.string (bstr b.pre)) ∧ w'.cell? ⟨bb, 2, none⟩ = some (.int .i64 b.frm) ∧ w'.cell? ⟨bb, 3, none⟩ = some (.int .i64 b.to) ∧ w'.cell? ⟨bb, 4, none⟩ = some (.int .i64 b.st) ∧ w'.cell? ⟨bb, 5, none⟩ = some (.int .i64 b.en) ∧ w'.cell? ⟨bb, 6, none⟩ = some (.int .i64 b.made) ∧ w'.cell? ⟨bb, 7, none⟩ = some (.int .i64 b.kind) ∧ w'.cell? ⟨bb, 8, none⟩ = some (.string (bstr b.team))) (by kernel_rfl) (KEEP.out _ (Below.drew (Below.refl _ _))) (fun hHeld => ?_)
  obtain ⟨wq, hwq⟩ : ∃ wq, wq = w4.drew := ⟨_, rfl⟩
  have HG0 : Hid (Below w4.heap.size w4 wq) := Lib.hid (by rw [hwq]; exact Below.drew (Below.refl _ _))
  rw [← hwq] at hHeld ⊢
  clear hwq
  refine wpAnyH_take (i := 0) (v := ?_) rfl (by kernel_rfl) (by kernel_rfl) (by kernel_rfl) (fun _ _ _ h => h) (Or.inl ⟨by rfl, ?_⟩) (by assumption) ?_
  rotate_left
  · (intro w hSw; (try dsimp only at hSw); go_simp; try with_reducible rfl)
  try simp only [List.getElem_toArray, List.getElem_cons_succ, List.getElem_cons_zero, Act.put, List.setIfInBounds_toArray, List.set_cons_zero, List.set_cons_succ]
  refine wpAnyH_take (i := 1) (v := ?_) rfl (by kernel_rfl) (by kernel_rfl) (by kernel_rfl) (fun _ _ _ h => h) (Or.inl ⟨by rfl, ?_⟩) (by assumption) ?_
  rotate_left
  · (intro w hSw; (try dsimp only at hSw); go_simp; try with_reducible rfl)
  try simp only [List.getElem_toArray, List.getElem_cons_succ, List.getElem_cons_zero, Act.put, List.setIfInBounds_toArray, List.set_cons_zero, List.set_cons_succ]
  refine wpAnyH_take (i := 2) (v := ?_) rfl (by kernel_rfl) (by kernel_rfl) (by kernel_rfl) (fun _ _ _ h => h) (Or.inl ⟨by rfl, ?_⟩) (by assumption) ?_
  rotate_left
  · (intro w hSw; (try dsimp only at hSw); go_simp; try with_reducible rfl)
  try simp only [List.getElem_toArray, List.getElem_cons_succ, List.getElem_cons_zero, Act.put, List.setIfInBounds_toArray, List.set_cons_zero, List.set_cons_succ]
  refine wpAnyH_take (i := 3) (v := ?_) rfl (by kernel_rfl) (by kernel_rfl) (by kernel_rfl) (fun _ _ _ h => h) (Or.inl ⟨by rfl, ?_⟩) (by assumption) ?_
  rotate_left
  · (intro w hSw; (try dsimp only at hSw); go_simp; try with_reducible rfl)
  try simp only [List.getElem_toArray, List.getElem_cons_succ, List.getElem_cons_zero, Act.put, List.setIfInBounds_toArray, List.set_cons_zero, List.set_cons_succ]
  refine wpAnyH_take (i := 4) (v := ?_) rfl (by kernel_rfl) (by kernel_rfl) (by kernel_rfl) (fun _ _ _ h => h) (Or.inl ⟨by rfl, ?_⟩) (by assumption) ?_
  rotate_left
  · (intro w hSw; (try dsimp only at hSw); go_simp; try with_reducible rfl)
  try simp only [List.getElem_toArray, List.getElem_cons_succ, List.getElem_cons_zero, Act.put, List.setIfInBounds_toArray, List.set_cons_zero, List.set_cons_succ]
  refine wpAnyH_take (i := 5) (v := ?_) rfl (by kernel_rfl) (by kernel_rfl) (by kernel_rfl) (fun _ _ _ h => h) (Or.inl ⟨by rfl, ?_⟩) (by assumption) ?_
  rotate_left
  · (intro w hSw; (try dsimp only at hSw); go_simp; try with_reducible rfl)
  try simp only [List.getElem_toArray, List.getElem_cons_succ, List.getElem_cons_zero, Act.put, List.setIfInBounds_toArray, List.set_cons_zero, List.set_cons_succ]
  refine wpAnyH_take (i := 7) (v := ?_) rfl (by kernel_rfl) (by kernel_rfl) (by kernel_rfl) (fun _ _ _ h => h) (Or.inl ⟨by rfl, ?_⟩) (by assumption) ?_
  rotate_left
  · (intro w hSw; (try dsimp only at hSw); go_simp; try with_reducible rfl)
  try simp only [List.getElem_toArray, List.getElem_cons_succ, List.getElem_cons_zero, Act.put, List.setIfInBounds_toArray, List.set_cons_zero, List.set_cons_succ]
  refine wpAnyH_take (i := 8) (v := ?_) rfl (by kernel_rfl) (by kernel_rfl) (by kernel_rfl) (fun _ _ _ h => h) (Or.inl ⟨by rfl, ?_⟩) (by assumption) ?_
  rotate_left
  · (intro w hSw; (try dsimp only at hSw); go_simp; try with_reducible rfl)
  try simp only [List.getElem_toArray, List.getElem_cons_succ, List.getElem_cons_zero, Act.put, List.setIfInBounds_toArray, List.set_cons_zero, List.set_cons_succ]
  refine wpAnyH_take (i := 9) (v := ?_) rfl (by kernel_rfl) (by kernel_rfl) (by kernel_rfl) (fun _ _ _ h => h) (Or.inl ⟨by rfl, ?_⟩) (by assumption) ?_
  rotate_left
  · (intro w hSw; (try dsimp only at hSw); go_simp; try with_reducible rfl)
  try simp only [List.getElem_toArray, List.getElem_cons_succ, List.getElem_cons_zero, Act.put, List.setIfInBounds_toArray, List.set_cons_zero, List.set_cons_succ]
  refine wpAnyH_take (i := 10) (v := ?_) rfl (by kernel_rfl) (by kernel_rfl) (by kernel_rfl) (fun _ _ _ h => h) (Or.inl ⟨by rfl, ?_⟩) (by assumption) ?_
  rotate_left
  · (intro w hSw; (try dsimp only at hSw); go_simp; try with_reducible rfl)
  try simp only [List.getElem_toArray, List.getElem_cons_succ, List.getElem_cons_zero, Act.put, List.setIfInBounds_toArray, List.set_cons_zero, List.set_cons_succ]
  refine wpAnyH_take (i := 12) (v := ?_) rfl (by kernel_rfl) (by kernel_rfl) (by kernel_rfl) (fun _ _ _ h => h) (Or.inl ⟨by rfl, ?_⟩) (by assumption) ?_
  rotate_left
  · (intro w hSw; (try dsimp only at hSw); go_simp; try with_reducible rfl)
  try simp only [List.getElem_toArray, List.getElem_cons_succ, List.getElem_cons_zero, Act.put, List.setIfInBounds_toArray, List.set_cons_zero, List.set_cons_succ]
  refine wpAnyH_take (i := 14) (v := ?_) rfl (by kernel_rfl) (by kernel_rfl) (by kernel_rfl) (fun _ _ _ h => h) (Or.inl ⟨by rfl, ?_⟩) (by assumption) ?_
  rotate_left
  · (intro w hSw; (try dsimp only at hSw); go_simp; try with_reducible rfl)
  try simp only [List.getElem_toArray, List.getElem_cons_succ, List.getElem_cons_zero, Act.put, List.setIfInBounds_toArray, List.set_cons_zero, List.set_cons_succ]
  refine wpAnyH_take (i := 17) (v := ?_) rfl (by kernel_rfl) (by kernel_rfl) (by kernel_rfl) (fun _ _ _ h => h) (Or.inl ⟨by rfl, ?_⟩) (by assumption) ?_
  rotate_left
  · (intro w hSw; (try dsimp only at hSw); go_simp; try with_reducible rfl)
  try simp only [List.getElem_toArray, List.getElem_cons_succ, List.getElem_cons_zero, Act.put, List.setIfInBounds_toArray, List.set_cons_zero, List.set_cons_succ]
  refine wpAnyH_take (i := 18) (v := ?_) rfl (by kernel_rfl) (by kernel_rfl) (by kernel_rfl) (fun _ _ _ h => h) (Or.inl ⟨by rfl, ?_⟩) (by assumption) ?_
  rotate_left
  · (intro w hSw; (try dsimp only at hSw); go_simp; try with_reducible rfl)
  try simp only [List.getElem_toArray, List.getElem_cons_succ, List.getElem_cons_zero, Act.put, List.setIfInBounds_toArray, List.set_cons_zero, List.set_cons_succ]
  refine wpAnyH_take (i := 19) (v := ?_) rfl (by kernel_rfl) (by kernel_rfl) (by kernel_rfl) (fun _ _ _ h => h) (Or.inl ⟨by rfl, ?_⟩) (by assumption) ?_
  rotate_left
  · (intro w hSw; (try dsimp only at hSw); go_simp; try with_reducible rfl)
  try simp only [List.getElem_toArray, List.getElem_cons_succ, List.getElem_cons_zero, Act.put, List.setIfInBounds_toArray, List.set_cons_zero, List.set_cons_succ]
  refine wpAnyH_take (i := 20) (v := ?_) rfl (by kernel_rfl) (by kernel_rfl) (by kernel_rfl) (fun _ _ _ h => h) (Or.inl ⟨by rfl, ?_⟩) (by assumption) ?_
  rotate_left
  · (intro w hSw; (try dsimp only at hSw); go_simp; try with_reducible rfl)
  try simp only [List.getElem_toArray, List.getElem_cons_succ, List.getElem_cons_zero, Act.put, List.setIfInBounds_toArray, List.set_cons_zero, List.set_cons_succ]
  refine wpAnyH_ready (rs := [6]) (by kernel_rfl) (by simp) ?_
  refine AllReadyH.cons rfl (fun K hK => ?_) AllReadyH.nil
  rw [if_pos (by rfl)]
  simp only [List.getElem_toArray, List.getElem_cons_succ, List.getElem_cons_zero]
  go_simp
  go_at_call 48
  refine (icmp_any (b.pre.length : Int) (a.pre.length : Int) _).mono ?_
  rintro e wn1 ⟨rfl, hw⟩
  have HG1 : Hid (Below w4.heap.size w4 wn1) := Lib.hid (by rw [hw]; exact HG0.out)
  clear hw
  show K _ wn1
  refine hK.out _ _ (KEEP.out _ HG1.out) (fun hHeld => ?_)
  clear hK K
  try simp only [List.getElem_toArray, List.getElem_cons_succ, List.getElem_cons_zero, Act.put, List.setIfInBounds_toArray, List.set_cons_zero, List.set_cons_succ]
  refine wpAnyH_ready (rs := [11]) (by kernel_rfl) (by simp) ?_
  refine AllReadyH.cons rfl (fun K hK => ?_) AllReadyH.nil
  rw [if_pos (by rfl)]
  simp only [List.getElem_toArray, List.getElem_cons_succ, List.getElem_cons_zero]
  go_simp
  go_at_call 48
  refine (icmp_any b.made a.made _).mono ?_
  rintro e wn2 ⟨rfl, hw⟩
  have HG2 : Hid (Below w4.heap.size w4 wn2) := Lib.hid (by rw [hw]; exact HG1.out)
  clear hw
  show K _ wn2
  refine hK.out _ _ (KEEP.out _ HG2.out) (fun hHeld => ?_)
  clear hK K
  try simp only [List.getElem_toArray, List.getElem_cons_succ, List.getElem_cons_zero, Act.put, List.setIfInBounds_toArray, List.set_cons_zero, List.set_cons_succ]
  refine wpAnyH_ready (rs := [13]) (by kernel_rfl) (by simp) ?_
  refine AllReadyH.cons rfl (fun K hK => ?_) AllReadyH.nil
  rw [if_pos (by rfl)]
  simp only [List.getElem_toArray, List.getElem_cons_succ, List.getElem_cons_zero]
  go_simp
  go_at_call 49
  refine (none1_any b _).mono ?_
  rintro e wn3 ⟨rfl, hw⟩
  have HG3 : Hid (Below w4.heap.size w4 wn3) := Lib.hid (HG2.out.trans (hw.mono HG2.out.size))
  clear hw
  show K _ wn3
  refine hK.out _ _ (KEEP.out _ HG3.out) (fun hHeld => ?_)
  clear hK K
  try simp only [List.getElem_toArray, List.getElem_cons_succ, List.getElem_cons_zero, Act.put, List.setIfInBounds_toArray, List.set_cons_zero, List.set_cons_succ]
  refine wpAnyH_ready (rs := [15]) (by kernel_rfl) (by simp) ?_
  refine AllReadyH.cons rfl (fun K hK => ?_) AllReadyH.nil
  rw [if_pos (by rfl)]
  simp only [List.getElem_toArray, List.getElem_cons_succ, List.getElem_cons_zero]
  go_simp
  go_at_call 49
  refine (none1_any a _).mono ?_
  rintro e wn4 ⟨rfl, hw⟩
  have HG4 : Hid (Below w4.heap.size w4 wn4) := Lib.hid (HG3.out.trans (hw.mono HG3.out.size))
  clear hw
  show K _ wn4
  refine hK.out _ _ (KEEP.out _ HG4.out) (fun hHeld => ?_)
  clear hK K
  try simp only [List.getElem_toArray, List.getElem_cons_succ, List.getElem_cons_zero, Act.put, List.setIfInBounds_toArray, List.set_cons_zero, List.set_cons_succ]
  refine wpAnyH_ready (rs := [16]) (by kernel_rfl) (by simp) ?_
  refine AllReadyH.cons rfl (fun K hK => ?_) AllReadyH.nil
  rw [if_pos (by rfl)]
  simp only [List.getElem_toArray, List.getElem_cons_succ, List.getElem_cons_zero]
  go_simp
  go_at_call 48
  refine (icmp_any (none1 b) (none1 a) _).mono ?_
  rintro e wn5 ⟨rfl, hw⟩
  have HG5 : Hid (Below w4.heap.size w4 wn5) := Lib.hid (by rw [hw]; exact HG4.out)
  clear hw
  show K _ wn5
  refine hK.out _ _ (KEEP.out _ HG5.out) (fun hHeld => ?_)
  clear hK K
  try simp only [List.getElem_toArray, List.getElem_cons_succ, List.getElem_cons_zero, Act.put, List.setIfInBounds_toArray, List.set_cons_zero, List.set_cons_succ]
  refine wpAnyH_ready (rs := [21]) (by kernel_rfl) (by simp) ?_
  refine AllReadyH.cons rfl (fun K hK => ?_) AllReadyH.nil
  rw [if_pos (by rfl)]
  simp only [List.getElem_toArray, List.getElem_cons_succ, List.getElem_cons_zero]
  go_simp
  go_at_call 45
  refine (strCmp_any a.id b.id _).mono ?_
  rintro e wn6 ⟨rfl, hw⟩
  have HG6 : Hid (Below w4.heap.size w4 wn6) := Lib.hid (by rw [hw]; exact HG5.out)
  clear hw
  show K _ wn6
  refine hK.out _ _ (KEEP.out _ HG6.out) (fun hHeld => ?_)
  clear hK K
  try simp only [List.getElem_toArray, List.getElem_cons_succ, List.getElem_cons_zero, Act.put, List.setIfInBounds_toArray, List.set_cons_zero, List.set_cons_succ]
  refine wpAnyH_ready (rs := [22]) (by kernel_rfl) (by simp) ?_
  refine AllReadyH.cons rfl (fun K hK => ?_) AllReadyH.nil
  rw [if_pos (by rfl)]
  simp only [List.getElem_toArray, List.getElem_cons_succ, List.getElem_cons_zero]
  go_simp
  refine hK.out _ _ (KEEP.out _ (HG6.out.alloc HG6.out.size _)) (fun hHeld => ?_)
  clear hK K
  try simp only [List.getElem_toArray, List.getElem_cons_succ, List.getElem_cons_zero, Act.put, List.setIfInBounds_toArray, List.set_cons_zero, List.set_cons_succ]
  refine wpAnyH_ready (rs := [23]) (by kernel_rfl) (by simp) ?_
  refine AllReadyH.cons rfl (fun K hK => ?_) AllReadyH.nil
  rw [if_pos (by rfl)]
  simp only [List.getElem_toArray, List.getElem_cons_succ, List.getElem_cons_zero]
  go_simp
  go_at_call 47
  refine (orL_any _ [icmp (b.pre.length : Int) (a.pre.length : Int), icmp b.made a.made, icmp (none1 b) (none1 a), scmp a.id b.id] 3 4 rfl _ (Blk.new _ _ _) (by simp)).mono ?_
  rintro e wz ⟨rfl, hw⟩
  have HGZ : Hid (Below w4.heap.size w4 wz) := Lib.hid (by rw [hw]; exact HG6.out.alloc HG6.out.size _)
  clear hw
  show K _ wz
  refine hK.out _ _ (KEEP.out _ HGZ.out) (fun hHeld => ?_)
  clear hK K
  try simp only [List.getElem_toArray, List.getElem_cons_succ, List.getElem_cons_zero, Act.put, List.setIfInBounds_toArray, List.set_cons_zero, List.set_cons_succ]
  refine wpAnyH_take (i := 24) (v := ?_) rfl (by kernel_rfl) (by kernel_rfl) (by kernel_rfl) (fun _ _ _ h => h) (Or.inl ⟨by rfl, ?_⟩) (by assumption) ?_
  rotate_left
  · (intro w hSw; (try dsimp only at hSw); go_simp; try with_reducible rfl)
  try simp only [List.getElem_toArray, List.getElem_cons_succ, List.getElem_cons_zero, Act.put, List.setIfInBounds_toArray, List.set_cons_zero, List.set_cons_succ]
  refine wpAnyH_done (by kernel_rfl) ?_ _
  clear hHeld KEEP
  go_wp2_with fail
  go_ret
  exact ⟨by rw [HF.out]; rfl, HB.out.trans (HGZ.out.mono HB.out.size)⟩
end Go.Proofs.YtdljgjlkfihjdaaGreatDoor
