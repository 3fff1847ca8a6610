/-
  The closure by which care.places sorts sites.
-/
import Derived.Test.YtdeeiifcjbmmiaaDoorScore
import Derived.Test.YtdeeiifcjbmmiaaDoorBlkR
import Derived.Deep.RegionHeld
namespace Go.Proofs.YtdeeiifcjbmmiaaDoor
open Go.RowKit
set_option linter.unusedVariables false
set_option linter.unusedSimpArgs false

theorem nanS_any (x : Int) (w : World) : Calls Tryd.prog 44 #[.int .i64 x] w fun e w' => e = .returned (.bool false) ∧ w' = w := by
  go_enter Tryd.func44, Tryd.ntmps44
  go_wp2_with fail
  go_ret
  exact ⟨rfl, rfl⟩
set_option maxRecDepth 100000 in
set_option maxHeartbeats 1000000 in
theorem icmpS_any (x y : Int) (w : World) : Calls Tryd.prog 31 #[.int .i64 x, .int .i64 y] w fun e w' => e = .returned (.int .i64 (icmpS x y)) ∧ w' = w := by
  have HF : Hid (icmpS x y = if x < y then -1 else if y < x then 1 else 0) := Lib.hid rfl
  rcases Int.lt_trichotomy x y with h | h | h
  · have HC := Lib.hid h
    go_enter Tryd.func31, Tryd.ntmps31
    go_wp2_with (go_at_call 44; refine (nanS_any _ _).mono ?_; rintro e w1 ⟨rfl, rfl⟩)
    go_ret
    exact ⟨by rw [HF.out, if_pos (by have := HC.out; omega)]; rfl, rfl⟩
  · subst h
    go_enter Tryd.func31, Tryd.ntmps31
    go_wp2_with (go_at_call 44; refine (nanS_any _ _).mono ?_; rintro e w1 ⟨rfl, rfl⟩)
    go_ret
    exact ⟨by rw [HF.out, if_neg (by omega), if_neg (by omega)]; rfl, rfl⟩
  · have h2 : ¬ x < y := by omega
    have HC := Lib.hid (And.intro h h2)
    go_enter Tryd.func31, Tryd.ntmps31
    go_wp2_with (go_at_call 44; refine (nanS_any _ _).mono ?_; rintro e w1 ⟨rfl, rfl⟩)
    go_ret
    exact ⟨by rw [HF.out, if_neg (by have := HC.out.2; omega), if_pos (by have := HC.out.1; omega)]; rfl, rfl⟩

def sbCells (x : Sb) : List Value := siteCells x.1
set_option maxRecDepth 100000 in
set_option maxHeartbeats 8000000 in
theorem cmpS_any (item : List UInt8) (a b : Sb) (bi : Nat) (w : World) (hi : item.length ≤ 1000000) (hb : w.cell? ⟨bi, 0, none⟩ = some (.string (bstr item))) :
    Calls Tryd.prog 30 #[.agg (sbCells a).toArray, .agg (sbCells b).toArray, .pointer (some ⟨bi, 0, none⟩)] w fun e w' => e = .returned (.int .i64 (cmpS item a b)) ∧ BG w w' := by
  have hbl : bi < w.heap.size := by simpa using World.block_lt_of_cell? w _ hb
  have HK1 : Hid (Blk ((w.alloc (.cells #[.string (bstr a.1.name), .int .i64 a.1.weight, .int .i64 a.1.room] 39)).alloc (.cells #[.string (bstr b.1.name), .int .i64 b.1.weight, .int .i64 b.1.room] 39)) w.heap.size 39 [.string (bstr a.1.name), .int .i64 a.1.weight, .int .i64 a.1.room]) := Lib.hid ((Blk.new w _ _).allocR _)
  have HK2 : Hid (Blk ((w.alloc (.cells #[.string (bstr a.1.name), .int .i64 a.1.weight, .int .i64 a.1.room] 39)).alloc (.cells #[.string (bstr b.1.name), .int .i64 b.1.weight, .int .i64 b.1.room] 39)) (w.heap.size + 1) 39 [.string (bstr b.1.name), .int .i64 b.1.weight, .int .i64 b.1.room]) := Lib.hid (by
    have h := Blk.new (w.alloc (.cells #[.string (bstr a.1.name), .int .i64 a.1.weight, .int .i64 a.1.room] 39)) 39 [.string (bstr b.1.name), .int .i64 b.1.weight, .int .i64 b.1.room]
    simpa only [World.size_alloc] using h)
  have HA : Hid (BG w ((w.alloc (.cells #[.string (bstr a.1.name), .int .i64 a.1.weight, .int .i64 a.1.room] 39)).alloc (.cells #[.string (bstr b.1.name), .int .i64 b.1.weight, .int .i64 b.1.room] 39))) := Lib.hid (((BG.refl w).alloc _).alloc _)
  have HI : Hid (((w.alloc (.cells #[.string (bstr a.1.name), .int .i64 a.1.weight, .int .i64 a.1.room] 39)).alloc (.cells #[.string (bstr b.1.name), .int .i64 b.1.weight, .int .i64 b.1.room] 39)).cell? ⟨bi, 0, none⟩ = some (.string (bstr item))) := Lib.hid (((same_below HA.out.1).cell (a := ⟨bi, 0, none⟩) hbl).trans hb)
  show Calls Tryd.prog 30 #[.agg #[.string (bstr a.1.name), .int .i64 a.1.weight, .int .i64 a.1.room], .agg #[.string (bstr b.1.name), .int .i64 b.1.weight, .int .i64 b.1.room], .pointer (some ⟨bi, 0, none⟩)] w _
  clear hb
  go_enter Tryd.func30, Tryd.ntmps30
  go_wp2_with fail
  generalize (w.alloc (.cells #[.string (bstr a.1.name), .int .i64 a.1.weight, .int .i64 a.1.room] 39)).alloc (.cells #[.string (bstr b.1.name), .int .i64 b.1.weight, .int .i64 b.1.room] 39) = wa at *
  obtain ⟨bx, hbx⟩ : ∃ bx, bx = w.heap.size := ⟨_, rfl⟩
  obtain ⟨bz, hbz⟩ : ∃ bz, bz = w.heap.size + 1 := ⟨_, rfl⟩
  rw [← hbz] at HK2 ⊢
  rw [← hbx] at HK1 ⊢
  clear hbx hbz
  have hil : bi < wa.heap.size := by simpa using World.block_lt_of_cell? wa _ HI.out
  have KEEP : Hid (∀ w', Below wa.heap.size wa w' → w'.cell? ⟨bx, 0, none⟩ = some (.string (bstr a.1.name)) ∧ w'.cell? ⟨bx, 1, none⟩ = some (.int .i64 a.1.weight) ∧ w'.cell? ⟨bx, 2, none⟩ = some (.int .i64 a.1.room) ∧ w'.cell? ⟨bz, 0, none⟩ = some (.string (bstr b.1.name)) ∧ w'.cell? ⟨bz, 1, none⟩ = some (.int .i64 b.1.weight) ∧ w'.cell? ⟨bz, 2, none⟩ = some (.int .i64 b.1.room) ∧ w'.cell? ⟨bi, 0, none⟩ = some (.string (bstr item))) := Lib.hid (fun w' h => ⟨(HK1.out.same (same_below h) HK1.out.lt).cell 0, (HK1.out.same (same_below h) HK1.out.lt).cell 1, (HK1.out.same (same_below h) HK1.out.lt).cell 2, (HK2.out.same (same_below h) HK2.out.lt).cell 0, (HK2.out.same (same_below h) HK2.out.lt).cell 1, (HK2.out.same (same_below h) HK2.out.lt).cell 2, ((same_below h).cell (a := ⟨bi, 0, none⟩) hil).trans HI.out⟩)
  clear HK1 HK2 HI hil
  refine wp_region_held_drew (S := fun w' => w'.cell? ⟨bx, 0, none⟩ = some (.string (bstr a.1.name)) ∧ w'.cell? ⟨bx, 1, none⟩ = some (.int .i64 a.1.weight) ∧ w'.cell? ⟨bx, 2, none⟩ = some (.int .i64 a.1.room) ∧ w'.cell? ⟨bz, 0, none⟩ = some (.string (bstr b.1.name)) ∧ w'.cell? ⟨bz, 1, none⟩ = some (.int .i64 b.1.weight) ∧ w'.cell? ⟨bz, 2, none⟩ = some (.int .i64 b.1.room) ∧ w'.cell? ⟨bi, 0, none⟩ = some (.string (bstr item))) (by kernel_rfl) (KEEP.out _ (Below.drew (Below.refl _ _))) (fun hHeld => ?_)
  obtain ⟨wq, hwq⟩ : ∃ wq, wq = World.drew wa := ⟨_, rfl⟩
  have HG0 : Hid (Below wa.heap.size wa wq) := Lib.hid (by rw [hwq]; exact Below.drew (Below.refl _ _))
  have HBq : Hid (BG wa wq) := Lib.hid (by rw [hwq]; exact (BG.refl wa).drew)
  rw [← hwq] at hHeld ⊢
  clear hwq
  refine wpAnyH_take (i := 0) (v := ?_) rfl (by kernel_rfl) (by kernel_rfl) (by kernel_rfl) (fun _ _ _ h => h) (Or.inl ⟨by rfl, ?_⟩) (by assumption) ?_
  rotate_left
  · (intro w hSw; (try dsimp only at hSw); go_simp; try with_reducible rfl)
  try simp only [List.getElem_toArray, List.getElem_cons_succ, List.getElem_cons_zero, Act.put, List.setIfInBounds_toArray, List.set_cons_zero, List.set_cons_succ]
  refine wpAnyH_take (i := 1) (v := ?_) rfl (by kernel_rfl) (by kernel_rfl) (by kernel_rfl) (fun _ _ _ h => h) (Or.inl ⟨by rfl, ?_⟩) (by assumption) ?_
  rotate_left
  · (intro w hSw; (try dsimp only at hSw); go_simp; try with_reducible rfl)
  try simp only [List.getElem_toArray, List.getElem_cons_succ, List.getElem_cons_zero, Act.put, List.setIfInBounds_toArray, List.set_cons_zero, List.set_cons_succ]
  refine wpAnyH_take (i := 3) (v := ?_) rfl (by kernel_rfl) (by kernel_rfl) (by kernel_rfl) (fun _ _ _ h => h) (Or.inl ⟨by rfl, ?_⟩) (by assumption) ?_
  rotate_left
  · (intro w hSw; (try dsimp only at hSw); go_simp; try with_reducible rfl)
  try simp only [List.getElem_toArray, List.getElem_cons_succ, List.getElem_cons_zero, Act.put, List.setIfInBounds_toArray, List.set_cons_zero, List.set_cons_succ]
  refine wpAnyH_take (i := 4) (v := ?_) rfl (by kernel_rfl) (by kernel_rfl) (by kernel_rfl) (fun _ _ _ h => h) (Or.inl ⟨by rfl, ?_⟩) (by assumption) ?_
  rotate_left
  · (intro w hSw; (try dsimp only at hSw); go_simp; try with_reducible rfl)
  try simp only [List.getElem_toArray, List.getElem_cons_succ, List.getElem_cons_zero, Act.put, List.setIfInBounds_toArray, List.set_cons_zero, List.set_cons_succ]
  refine wpAnyH_ready (rs := [2]) (by kernel_rfl) (by simp) ?_
  refine AllReadyH.cons rfl (fun K hK => ?_) AllReadyH.nil
  rw [if_pos (by rfl)]
  simp only [List.getElem_toArray, List.getElem_cons_succ, List.getElem_cons_zero]
  go_simp
  go_at_call 32
  refine (score_any b.1 item wq b.2 hi).mono ?_
  rintro e w1 ⟨rfl, hw⟩
  have HB1 := Lib.hid (HBq.out.trans hw)
  clear hw
  show K _ w1
  refine hK.out _ _ (KEEP.out _ HB1.out.1) (fun hHeld => ?_)
  clear hK K
  try simp only [List.getElem_toArray, List.getElem_cons_succ, List.getElem_cons_zero, Act.put, List.setIfInBounds_toArray, List.set_cons_zero, List.set_cons_succ]
  refine wpAnyH_ready (rs := [5]) (by kernel_rfl) (by simp) ?_
  refine AllReadyH.cons rfl (fun K hK => ?_) AllReadyH.nil
  rw [if_pos (by rfl)]
  simp only [List.getElem_toArray, List.getElem_cons_succ, List.getElem_cons_zero]
  go_simp
  go_at_call 32
  refine (score_any a.1 item w1 a.2 hi).mono ?_
  rintro e w2 ⟨rfl, hw⟩
  have HB2 := Lib.hid (HB1.out.trans hw)
  clear hw
  show K _ w2
  refine hK.out _ _ (KEEP.out _ HB2.out.1) (fun hHeld => ?_)
  clear hK K
  try simp only [List.getElem_toArray, List.getElem_cons_succ, List.getElem_cons_zero, Act.put, List.setIfInBounds_toArray, List.set_cons_zero, List.set_cons_succ]
  refine wpAnyH_ready (rs := [6]) (by kernel_rfl) (by simp) ?_
  refine AllReadyH.cons rfl (fun K hK => ?_) AllReadyH.nil
  rw [if_pos (by rfl)]
  simp only [List.getElem_toArray, List.getElem_cons_succ, List.getElem_cons_zero]
  go_simp
  go_at_call 31
  refine (icmpS_any _ _ w2).mono ?_
  rintro e w9 ⟨rfl, rfl⟩
  show K _ w9
  refine hK.out _ _ (KEEP.out _ HB2.out.1) (fun hHeld => ?_)
  clear hK K
  try simp only [List.getElem_toArray, List.getElem_cons_succ, List.getElem_cons_zero, Act.put, List.setIfInBounds_toArray, List.set_cons_zero, List.set_cons_succ]
  refine wpAnyH_take (i := 7) (v := ?_) rfl (by kernel_rfl) (by kernel_rfl) (by kernel_rfl) (fun _ _ _ h => h) (Or.inl ⟨by rfl, ?_⟩) (by assumption) ?_
  rotate_left
  · (intro w hSw; (try dsimp only at hSw); go_simp; try with_reducible rfl)
  try simp only [List.getElem_toArray, List.getElem_cons_succ, List.getElem_cons_zero, Act.put, List.setIfInBounds_toArray, List.set_cons_zero, List.set_cons_succ]
  refine wpAnyH_done (by kernel_rfl) ?_ _
  clear hHeld
  go_wp2_with fail
  go_ret
  exact ⟨rfl, HA.out.trans HB2.out⟩
end Go.Proofs.YtdeeiifcjbmmiaaDoor
