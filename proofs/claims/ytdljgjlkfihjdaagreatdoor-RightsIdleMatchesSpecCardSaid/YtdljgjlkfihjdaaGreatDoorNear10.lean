/-
  'nearer' and 'Nearer' of the reference of chapter 10.
-/
import Derived.Test.YtdljgjlkfihjdaaGreatDoorRef10
import Derived.Deep.RegionHeld3
namespace Go.Proofs.YtdljgjlkfihjdaaGreatDoor
open Go.RowKit
set_option linter.unusedVariables false
set_option linter.unusedSimpArgs false

def isgn (x : Int) : Int := if x < 0 then -1 else if 0 < x then 1 else 0
def sgL (l : List Int) : Int := orL (l.map isgn)
theorem isgn_icmp (x y : Int) : icmp x y = isgn (x - y) := by
  unfold icmp isgn
  repeat' split
  all_goals omega
theorem isgn_scmp (a b : List UInt8) : isgn (scmp a b) = scmp a b := by
  rcases scmp_tri a b with ⟨h, _⟩ | ⟨h, _⟩ | ⟨h, _⟩ <;> rw [h] <;> rfl
theorem near_sg (a b : Rgt) : near a b = sgL [(b.pre.length : Int) - (a.pre.length : Int), b.made - a.made, none1 b - none1 a, scmp a.id b.id] := by
  unfold near sgL
  rw [List.map_cons, List.map_cons, List.map_cons, List.map_cons, List.map_nil, isgn_icmp, isgn_icmp, isgn_icmp, isgn_scmp]
theorem sgL_at {l : List Int} {k : Nat} (hk : k < l.length) (h : ∀ j, j < k → ∀ hj : j < l.length, l[j] = 0) (hn : isgn l[k] ≠ 0) : sgL l = isgn l[k] := by
  have := orL_at (l := l.map isgn) (k := k) (by simpa using hk) (fun j hj hl => by
    rw [List.getElem_map, h j hj (by simpa using hl)]; rfl) (by rw [List.getElem_map]; exact hn)
  rw [List.getElem_map] at this
  exact this
theorem sgL_neg {l : List Int} {k : Nat} (hk : k < l.length) (h : ∀ j, j < k → ∀ hj : j < l.length, l[j] = 0) (hn : l[k] < 0) : sgL l = -1 := by
  have e : isgn l[k] = -1 := if_pos hn
  rw [sgL_at hk h (by rw [e]; decide), e]
theorem sgL_pos {l : List Int} {k : Nat} (hk : k < l.length) (h : ∀ j, j < k → ∀ hj : j < l.length, l[j] = 0) (hn : 0 < l[k]) : sgL l = 1 := by
  have e : isgn l[k] = 1 := by unfold isgn; rw [if_neg (by omega), if_pos hn]
  rw [sgL_at hk h (by rw [e]; decide), e]
theorem sgL_none {l : List Int} (h : ∀ j, ∀ hj : j < l.length, l[j] = 0) : sgL l = 0 :=
  orL_none (l := l.map isgn) fun j hj => by rw [List.getElem_map, h j (by simpa using hj)]; rfl
theorem rg_made {r : Rgt} (h : rgF r = 0) : 0 ≤ r.made ∧ r.made ≤ 253402300799 := by
  unfold rgF at h
  split at h
  · omega
  · split at h
    · omega
    · unfold rgRest at h
      split at h
      · omega
      · rename_i h1
        have h1 := Bool.not_eq_false _ ▸ h1
        unfold rgRange at h1
        simp only [Bool.and_eq_true, withinB, decide_eq_true_eq] at h1
        exact h1.2.2.1
set_option maxRecDepth 100000 in
set_option maxHeartbeats 4000000 in
theorem hnear_any (a b : Rgt) (w : World) (hma : 0 ≤ a.made ∧ a.made ≤ 253402300799) (hmb : 0 ≤ b.made ∧ b.made ≤ 253402300799) (hla : a.pre.length ≤ 9223372036854775807) (hlb : b.pre.length ≤ 9223372036854775807) :
    Calls Tryz.prog 60 #[.agg #[.string (bstr a.id), .string (bstr a.pre), .int .i64 a.frm, .int .i64 a.to, .int .i64 a.st, .int .i64 a.en, .int .i64 a.made, .int .i64 a.kind, .string (bstr a.team)], .agg #[.string (bstr b.id), .string (bstr b.pre), .int .i64 b.frm, .int .i64 b.to, .int .i64 b.st, .int .i64 b.en, .int .i64 b.made, .int .i64 b.kind, .string (bstr b.team)]] w fun e w' => e = .returned (.int .i64 (near a b)) ∧ Below w.heap.size w w' := by
  have hb1 := (Below.refl w.heap.size w).alloc (Nat.le_refl _) (.cells #[.string (bstr a.id), .string (bstr a.pre), .int .i64 a.frm, .int .i64 a.to, .int .i64 a.st, .int .i64 a.en, .int .i64 a.made, .int .i64 a.kind, .string (bstr a.team)] 38)
  have hb2 := (Below.refl (w.alloc (.cells #[.string (bstr a.id), .string (bstr a.pre), .int .i64 a.frm, .int .i64 a.to, .int .i64 a.st, .int .i64 a.en, .int .i64 a.made, .int .i64 a.kind, .string (bstr a.team)] 38)).heap.size _).alloc (Nat.le_refl _) (.cells #[.string (bstr b.id), .string (bstr b.pre), .int .i64 b.frm, .int .i64 b.to, .int .i64 b.st, .int .i64 b.en, .int .i64 b.made, .int .i64 b.kind, .string (bstr b.team)] 38)
  have HB := Lib.hid (hb1.trans (hb2.mono (by simp)))
  have hka : Blk ((w.alloc (.cells #[.string (bstr a.id), .string (bstr a.pre), .int .i64 a.frm, .int .i64 a.to, .int .i64 a.st, .int .i64 a.en, .int .i64 a.made, .int .i64 a.kind, .string (bstr a.team)] 38)).alloc (.cells #[.string (bstr b.id), .string (bstr b.pre), .int .i64 b.frm, .int .i64 b.to, .int .i64 b.st, .int .i64 b.en, .int .i64 b.made, .int .i64 b.kind, .string (bstr b.team)] 38)) w.heap.size 38 (rgtCells a) := (Blk.new w 38 (rgtCells a)).same (same_below hb2) (by simp)
  have hkb : Blk ((w.alloc (.cells #[.string (bstr a.id), .string (bstr a.pre), .int .i64 a.frm, .int .i64 a.to, .int .i64 a.st, .int .i64 a.en, .int .i64 a.made, .int .i64 a.kind, .string (bstr a.team)] 38)).alloc (.cells #[.string (bstr b.id), .string (bstr b.pre), .int .i64 b.frm, .int .i64 b.to, .int .i64 b.st, .int .i64 b.en, .int .i64 b.made, .int .i64 b.kind, .string (bstr b.team)] 38)) (w.heap.size + 1) 38 (rgtCells b) := by
    have := Blk.new (w.alloc (.cells #[.string (bstr a.id), .string (bstr a.pre), .int .i64 a.frm, .int .i64 a.to, .int .i64 a.st, .int .i64 a.en, .int .i64 a.made, .int .i64 a.kind, .string (bstr a.team)] 38)) 38 (rgtCells b)
    rwa [World.size_alloc] at this
  have HKA := Lib.hid hka
  have HKB := Lib.hid hkb
  have HF := Lib.hid (near_sg a b)
  have hnr : ∀ r : Rgt, 0 ≤ none1 r ∧ none1 r ≤ 1 := fun r => by unfold none1; split <;> omega
  have hn1 := hnr a
  have hn2 := hnr b
  have hs1 : (bstr a.pre).size = a.pre.length := rfl
  have hs2 : (bstr b.pre).size = b.pre.length := rfl
  have hw1 : IntKind.i64.wrap (((bstr b.pre).size : Int) - ((bstr a.pre).size : Int)) = ((bstr b.pre).size : Int) - ((bstr a.pre).size : Int) := IntWalk.i64_in _ (by omega)
  have hw2 : IntKind.i64.wrap (b.made - a.made) = b.made - a.made := IntWalk.i64_in _ (by omega)
  have hw3 : IntKind.i64.wrap (none1 b - none1 a) = none1 b - none1 a := IntWalk.i64_in _ (by omega)
  clear hb1 hb2 hka hkb hnr hs1 hs2
  go_enter Tryz.func60, Tryz.ntmps60
  go_wp2_with fail
  obtain ⟨ba, hba⟩ : ∃ ba, w.heap.size = ba := ⟨_, rfl⟩
  obtain ⟨bb, hbb⟩ : ∃ bb, ba + 1 = bb := ⟨_, rfl⟩
  rw [hba] at HKA HKB ⊢
  rw [hbb] at HKB ⊢
  generalize (w.alloc (.cells #[.string (bstr a.id), .string (bstr a.pre), .int .i64 a.frm, .int .i64 a.to, .int .i64 a.st, .int .i64 a.en, .int .i64 a.made, .int .i64 a.kind, .string (bstr a.team)] 38)).alloc (.cells #[.string (bstr b.id), .string (bstr b.pre), .int .i64 b.frm, .int .i64 b.to, .int .i64 b.st, .int .i64 b.en, .int .i64 b.made, .int .i64 b.kind, .string (bstr b.team)] 38) = w4 at *
  clear hba hbb
  have KEEP : Hid (∀ w', Below w4.heap.size w4 w' → (w'.cell? ⟨ba, 0, none⟩ = some (.string (bstr a.id)) ∧ w'.cell? ⟨ba, 1, none⟩ = some (.string (bstr a.pre)) ∧ w'.cell? ⟨ba, 2, none⟩ = some (.int .i64 a.frm) ∧ w'.cell? ⟨ba, 3, none⟩ = some (.int .i64 a.to) ∧ w'.cell? ⟨ba, 4, none⟩ = some (.int .i64 a.st) ∧ w'.cell? ⟨ba, 5, none⟩ = some (.int .i64 a.en) ∧ w'.cell? ⟨ba, 6, none⟩ = some (.int .i64 a.made) ∧ w'.cell? ⟨ba, 7, none⟩ = some (.int .i64 a.kind) ∧ w'.cell? ⟨ba, 8, none⟩ = some (.string (bstr a.team)) ∧ w'.cell? ⟨bb, 0, none⟩ = some (.string (bstr b.id)) ∧ w'.cell? ⟨bb, 1, none⟩ = some (.string (bstr b.pre)) ∧ w'.cell? ⟨bb, 2, none⟩ = some (.int .i64 b.frm) ∧ w'.cell? ⟨bb, 3, none⟩ = some (.int .i64 b.to) ∧ w'.cell? ⟨bb, 4, none⟩ = some (.int .i64 b.st) ∧ w'.cell? ⟨bb, 5, none⟩ = some (.int .i64 b.en) ∧ w'.cell? ⟨bb, 6, none⟩ = some (.int .i64 b.made) ∧ w'.cell? ⟨bb, 7, none⟩ = some (.int .i64 b.kind) ∧ w'.cell? ⟨bb, 8, none⟩ = some (.string (bstr b.team)))) := Lib.hid (fun w' hg => by
    have h1 := HKA.out.same (same_below hg) HKA.out.lt
    have h2 := HKB.out.same (same_below hg) HKB.out.lt
    exact ⟨h1.cell 0, h1.cell 1, h1.cell 2, h1.cell 3, h1.cell 4, h1.cell 5, h1.cell 6, h1.cell 7, h1.cell 8, h2.cell 0, h2.cell 1, h2.cell 2, h2.cell 3, h2.cell 4, h2.cell 5, h2.cell 6, h2.cell 7, h2.cell 8⟩)
  refine wp_region_held_drew (S := fun w' => w'.cell? ⟨ba, 0, none⟩ = some (.string (bstr a.id)) ∧ w'.cell? ⟨ba, 1, none⟩ = some (.string (bstr a.pre)) ∧ w'.cell? ⟨ba, 2, none⟩ = some (.int .i64 a.frm) ∧ w'.cell? ⟨ba, 3, none⟩ = some (.int .i64 a.to) ∧ w'.cell? ⟨ba, 4, none⟩ = some (.int .i64 a.st) ∧ w'.cell? ⟨ba, 5, none⟩ = some (.int .i64 a.en) ∧ w'.cell? ⟨ba, 6, none⟩ = some (.int .i64 a.made) ∧ w'.cell? ⟨ba, 7, none⟩ = some (.int .i64 a.kind) ∧ w'.cell? ⟨ba, 8, none⟩ = some (.string (bstr a.team)) ∧ w'.cell? ⟨bb, 0, none⟩ = some (.string (bstr b.id)) ∧ w'.cell? ⟨bb, 1, none⟩ = some (.string (bstr b.pre)) ∧ w'.cell? ⟨bb, 2, none⟩ = some (.int .i64 b.frm) ∧ w'.cell? ⟨bb, 3, none⟩ = some (.int .i64 b.to) ∧ w'.cell? ⟨bb, 4, none⟩ = some (.int .i64 b.st) ∧ w'.cell? ⟨bb, 5, none⟩ = some (.int .i64 b.en) ∧ w'.cell? ⟨bb, 6, none⟩ = some (.int .i64 b.made) ∧ w'.cell? ⟨bb, 7, none⟩ = some (.int .i64 b.kind) ∧ w'.cell? ⟨bb, 8, none⟩ = some (.string (bstr b.team))) (by kernel_rfl) (KEEP.out _ (Below.drew (Below.refl _ _))) (fun hHeld => ?_)
  obtain ⟨wq, hwq⟩ : ∃ wq, wq = w4.drew := ⟨_, rfl⟩
  have HG0 : Hid (Below w4.heap.size w4 wq) := Lib.hid (by rw [hwq]; exact Below.drew (Below.refl _ _))
  rw [← hwq] at hHeld ⊢
  clear hwq
  refine wpAnyH_take (i := 0) (v := ?_) rfl (by kernel_rfl) (by kernel_rfl) (by kernel_rfl) (fun _ _ _ h => h) (Or.inl ⟨by rfl, ?_⟩) (by assumption) ?_
  rotate_left
  · (intro w hSw; (try dsimp only at hSw); go_simp; try with_reducible rfl)
  try simp only [List.getElem_toArray, List.getElem_cons_succ, List.getElem_cons_zero, Act.put, List.setIfInBounds_toArray, List.set_cons_zero, List.set_cons_succ]
  refine wpAnyH_take (i := 1) (v := ?_) rfl (by kernel_rfl) (by kernel_rfl) (by kernel_rfl) (fun _ _ _ h => h) (Or.inl ⟨by rfl, ?_⟩) (by assumption) ?_
  rotate_left
  · (intro w hSw; (try dsimp only at hSw); go_simp; try with_reducible rfl)
  try simp only [List.getElem_toArray, List.getElem_cons_succ, List.getElem_cons_zero, Act.put, List.setIfInBounds_toArray, List.set_cons_zero, List.set_cons_succ]
  refine wpAnyH_take (i := 2) (v := ?_) rfl (by kernel_rfl) (by kernel_rfl) (by kernel_rfl) (fun _ _ _ h => h) (Or.inl ⟨by rfl, ?_⟩) (by assumption) ?_
  rotate_left
  · (intro w hSw; (try dsimp only at hSw); go_simp; try with_reducible rfl)
  try simp only [List.getElem_toArray, List.getElem_cons_succ, List.getElem_cons_zero, Act.put, List.setIfInBounds_toArray, List.set_cons_zero, List.set_cons_succ]
  refine wpAnyH_take (i := 3) (v := ?_) rfl (by kernel_rfl) (by kernel_rfl) (by kernel_rfl) (fun _ _ _ h => h) (Or.inl ⟨by rfl, ?_⟩) (by assumption) ?_
  rotate_left
  · (intro w hSw; (try dsimp only at hSw); go_simp; try with_reducible rfl)
  try simp only [List.getElem_toArray, List.getElem_cons_succ, List.getElem_cons_zero, Act.put, List.setIfInBounds_toArray, List.set_cons_zero, List.set_cons_succ]
  refine wpAnyH_take (i := 4) (v := ?_) rfl (by kernel_rfl) (by kernel_rfl) (by kernel_rfl) (fun _ _ _ h => h) (Or.inl ⟨by rfl, ?_⟩) (by assumption) ?_
  rotate_left
  · (intro w hSw; (try dsimp only at hSw); go_simp; try with_reducible rfl)
  try simp only [List.getElem_toArray, List.getElem_cons_succ, List.getElem_cons_zero, Act.put, List.setIfInBounds_toArray, List.set_cons_zero, List.set_cons_succ]
  refine wpAnyH_take (i := 5) (v := ?_) rfl (by kernel_rfl) (by kernel_rfl) (by kernel_rfl) (fun _ _ _ h => h) (Or.inl ⟨by rfl, ?_⟩) (by assumption) ?_
  rotate_left
  · (intro w hSw; (try dsimp only at hSw); go_simp; try with_reducible rfl)
  try simp only [List.getElem_toArray, List.getElem_cons_succ, List.getElem_cons_zero, Act.put, List.setIfInBounds_toArray, List.set_cons_zero, List.set_cons_succ]
  refine wpAnyH_take (i := 6) (v := ?_) rfl (by kernel_rfl) (by kernel_rfl) (by kernel_rfl) (fun _ _ _ h => h) (Or.inl ⟨by rfl, ?_⟩) (by assumption) ?_
  rotate_left
  · (intro w hSw; (try dsimp only at hSw); go_simp; try with_reducible rfl)
  try simp only [List.getElem_toArray, List.getElem_cons_succ, List.getElem_cons_zero, Act.put, List.setIfInBounds_toArray, List.set_cons_zero, List.set_cons_succ]
  refine wpAnyH_take (i := 7) (v := ?_) rfl (by kernel_rfl) (by kernel_rfl) (by kernel_rfl) (fun _ _ _ h => h) (Or.inl ⟨by rfl, ?_⟩) (by assumption) ?_
  rotate_left
  · (intro w hSw; (try dsimp only at hSw); go_simp; try with_reducible rfl)
  try simp only [List.getElem_toArray, List.getElem_cons_succ, List.getElem_cons_zero, Act.put, List.setIfInBounds_toArray, List.set_cons_zero, List.set_cons_succ]
  refine wpAnyH_take (i := 8) (v := ?_) rfl (by kernel_rfl) (by kernel_rfl) (by kernel_rfl) (fun _ _ _ h => h) (Or.inl ⟨by rfl, ?_⟩) (by assumption) ?_
  rotate_left
  · (intro w hSw; (try dsimp only at hSw); go_simp; try with_reducible rfl)
  try simp only [List.getElem_toArray, List.getElem_cons_succ, List.getElem_cons_zero, Act.put, List.setIfInBounds_toArray, List.set_cons_zero, List.set_cons_succ]
  refine wpAnyH_take (i := 9) (v := ?_) rfl (by kernel_rfl) (by kernel_rfl) (by kernel_rfl) (fun _ _ _ h => h) (Or.inl ⟨by rfl, ?_⟩) (by assumption) ?_
  rotate_left
  · (intro w hSw; (try dsimp only at hSw); go_simp; try with_reducible rfl)
  try simp only [List.getElem_toArray, List.getElem_cons_succ, List.getElem_cons_zero, Act.put, List.setIfInBounds_toArray, List.set_cons_zero, List.set_cons_succ]
  refine wpAnyH_take (i := 10) (v := ?_) rfl (by kernel_rfl) (by kernel_rfl) (by kernel_rfl) (fun _ _ _ h => h) (Or.inl ⟨by rfl, ?_⟩) (by assumption) ?_
  rotate_left
  · (intro w hSw; (try dsimp only at hSw); go_simp; try with_reducible rfl)
  try simp only [List.getElem_toArray, List.getElem_cons_succ, List.getElem_cons_zero, Act.put, List.setIfInBounds_toArray, List.set_cons_zero, List.set_cons_succ]
  refine wpAnyH_take (i := 11) (v := ?_) rfl (by kernel_rfl) (by kernel_rfl) (by kernel_rfl) (fun _ _ _ h => h) (Or.inl ⟨by rfl, ?_⟩) (by assumption) ?_
  rotate_left
  · (intro w hSw; (try dsimp only at hSw); go_simp; try with_reducible rfl)
  try simp only [List.getElem_toArray, List.getElem_cons_succ, List.getElem_cons_zero, Act.put, List.setIfInBounds_toArray, List.set_cons_zero, List.set_cons_succ]
  refine wpAnyH_take (i := 12) (v := ?_) rfl (by kernel_rfl) (by kernel_rfl) (by kernel_rfl) (fun _ _ _ h => h) (Or.inl ⟨by rfl, ?_⟩) (by assumption) ?_
  rotate_left
  · (intro w hSw; (try dsimp only at hSw); go_simp; try with_reducible rfl)
  try simp only [List.getElem_toArray, List.getElem_cons_succ, List.getElem_cons_zero, Act.put, List.setIfInBounds_toArray, List.set_cons_zero, List.set_cons_succ]
  refine wpAnyH_take (i := 14) (v := ?_) rfl (by kernel_rfl) (by kernel_rfl) (by kernel_rfl) (fun _ _ _ h => h) (Or.inl ⟨by rfl, ?_⟩) (by assumption) ?_
  rotate_left
  · (intro w hSw; (try dsimp only at hSw); go_simp; try with_reducible rfl)
  try simp only [List.getElem_toArray, List.getElem_cons_succ, List.getElem_cons_zero, Act.put, List.setIfInBounds_toArray, List.set_cons_zero, List.set_cons_succ]
  refine wpAnyH_take (i := 17) (v := ?_) rfl (by kernel_rfl) (by kernel_rfl) (by kernel_rfl) (fun _ _ _ h => h) (Or.inl ⟨by rfl, ?_⟩) (by assumption) ?_
  rotate_left
  · (intro w hSw; (try dsimp only at hSw); go_simp; try with_reducible rfl)
  try simp only [List.getElem_toArray, List.getElem_cons_succ, List.getElem_cons_zero, Act.put, List.setIfInBounds_toArray, List.set_cons_zero, List.set_cons_succ]
  refine wpAnyH_take (i := 18) (v := ?_) rfl (by kernel_rfl) (by kernel_rfl) (by kernel_rfl) (fun _ _ _ h => h) (Or.inl ⟨by rfl, ?_⟩) (by assumption) ?_
  rotate_left
  · (intro w hSw; (try dsimp only at hSw); go_simp; try with_reducible rfl)
  try simp only [List.getElem_toArray, List.getElem_cons_succ, List.getElem_cons_zero, Act.put, List.setIfInBounds_toArray, List.set_cons_zero, List.set_cons_succ]
  refine wpAnyH_take (i := 19) (v := ?_) rfl (by kernel_rfl) (by kernel_rfl) (by kernel_rfl) (fun _ _ _ h => h) (Or.inl ⟨by rfl, ?_⟩) (by assumption) ?_
  rotate_left
  · (intro w hSw; (try dsimp only at hSw); go_simp; try with_reducible rfl)
  try simp only [List.getElem_toArray, List.getElem_cons_succ, List.getElem_cons_zero, Act.put, List.setIfInBounds_toArray, List.set_cons_zero, List.set_cons_succ]
  refine wpAnyH_take (i := 20) (v := ?_) rfl (by kernel_rfl) (by kernel_rfl) (by kernel_rfl) (fun _ _ _ h => h) (Or.inl ⟨by rfl, ?_⟩) (by assumption) ?_
  rotate_left
  · (intro w hSw; (try dsimp only at hSw); go_simp; try with_reducible rfl)
  try simp only [List.getElem_toArray, List.getElem_cons_succ, List.getElem_cons_zero, Act.put, List.setIfInBounds_toArray, List.set_cons_zero, List.set_cons_succ]
  refine wpAnyH_take (i := 24) (v := ?_) rfl (by kernel_rfl) (by kernel_rfl) (by kernel_rfl) (fun _ _ _ h => h) (Or.inl ⟨by rfl, ?_⟩) (by assumption) ?_
  rotate_left
  · (intro w hSw; (try dsimp only at hSw); go_simp; try with_reducible rfl)
  try simp only [List.getElem_toArray, List.getElem_cons_succ, List.getElem_cons_zero, Act.put, List.setIfInBounds_toArray, List.set_cons_zero, List.set_cons_succ]
  refine wpAnyH_ready (rs := [13]) (by kernel_rfl) (by simp) ?_
  refine AllReadyH.cons rfl (fun K hK => ?_) AllReadyH.nil
  rw [if_pos (by rfl)]
  simp only [List.getElem_toArray, List.getElem_cons_succ, List.getElem_cons_zero]
  go_simp
  go_at_call 75
  refine (hnone1_any b _).mono ?_
  rintro e wn1 ⟨rfl, hw⟩
  have HG1 : Hid (Below w4.heap.size w4 wn1) := Lib.hid (HG0.out.trans (hw.mono HG0.out.size))
  clear hw
  show K _ wn1
  refine hK.out _ _ (KEEP.out _ HG1.out) (fun hHeld => ?_)
  clear hK K
  try simp only [List.getElem_toArray, List.getElem_cons_succ, List.getElem_cons_zero, Act.put, List.setIfInBounds_toArray, List.set_cons_zero, List.set_cons_succ]
  refine wpAnyH_ready (rs := [15]) (by kernel_rfl) (by simp) ?_
  refine AllReadyH.cons rfl (fun K hK => ?_) AllReadyH.nil
  rw [if_pos (by rfl)]
  simp only [List.getElem_toArray, List.getElem_cons_succ, List.getElem_cons_zero]
  go_simp
  go_at_call 75
  refine (hnone1_any a _).mono ?_
  rintro e wn2 ⟨rfl, hw⟩
  have HG2 : Hid (Below w4.heap.size w4 wn2) := Lib.hid (HG1.out.trans (hw.mono HG1.out.size))
  clear hw
  show K _ wn2
  refine hK.out _ _ (KEEP.out _ HG2.out) (fun hHeld => ?_)
  clear hK K
  try simp only [List.getElem_toArray, List.getElem_cons_succ, List.getElem_cons_zero, Act.put, List.setIfInBounds_toArray, List.set_cons_zero, List.set_cons_succ]
  refine wpAnyH_take (i := 16) (v := ?_) rfl (by kernel_rfl) (by kernel_rfl) (by kernel_rfl) (fun _ _ _ h => h) (Or.inl ⟨by rfl, ?_⟩) (by assumption) ?_
  rotate_left
  · (intro w hSw; (try dsimp only at hSw); go_simp; try with_reducible rfl)
  try simp only [List.getElem_toArray, List.getElem_cons_succ, List.getElem_cons_zero, Act.put, List.setIfInBounds_toArray, List.set_cons_zero, List.set_cons_succ]
  refine wpAnyH_ready (rs := [21]) (by kernel_rfl) (by simp) ?_
  refine AllReadyH.cons rfl (fun K hK => ?_) AllReadyH.nil
  rw [if_pos (by rfl)]
  simp only [List.getElem_toArray, List.getElem_cons_succ, List.getElem_cons_zero]
  go_simp
  go_at_call 45
  refine (strCmp_any a.id b.id _).mono ?_
  rintro e wn3 ⟨rfl, hw⟩
  have HG3 : Hid (Below w4.heap.size w4 wn3) := Lib.hid (by rw [hw]; exact HG2.out)
  clear hw
  show K _ wn3
  refine hK.out _ _ (KEEP.out _ HG3.out) (fun hHeld => ?_)
  clear hK K
  try simp only [List.getElem_toArray, List.getElem_cons_succ, List.getElem_cons_zero, Act.put, List.setIfInBounds_toArray, List.set_cons_zero, List.set_cons_succ]
  have HKN := Lib.hid (Blk.new wn3 3 [.int .i64 (((bstr b.pre).size : Int) - ((bstr a.pre).size : Int)), .int .i64 (b.made - a.made), .int .i64 (none1 b - none1 a), .int .i64 (scmp a.id b.id)])
  have HGZ := Lib.hid (HG3.out.alloc HG3.out.size (.cells #[.int .i64 (((bstr b.pre).size : Int) - ((bstr a.pre).size : Int)), .int .i64 (b.made - a.made), .int .i64 (none1 b - none1 a), .int .i64 (scmp a.id b.id)] 3))
  refine wpAnyH_ready (rs := [22]) (by kernel_rfl) (by simp) ?_
  refine AllReadyH.cons rfl (fun K hK => ?_) AllReadyH.nil
  rw [if_pos (by rfl)]
  simp only [List.getElem_toArray, List.getElem_cons_succ, List.getElem_cons_zero]
  go_simp
  refine hK.out _ _ (KEEP.out _ HGZ.out) (fun hHeld => ?_)
  clear hK K
  try simp only [List.getElem_toArray, List.getElem_cons_succ, List.getElem_cons_zero, Act.put, List.setIfInBounds_toArray, List.set_cons_zero, List.set_cons_succ]
  refine wpAnyH_take (i := 23) (v := ?_) rfl (by kernel_rfl) (by kernel_rfl) (by kernel_rfl) (fun _ _ _ h => h) (Or.inl ⟨by rfl, ?_⟩) (by assumption) ?_
  rotate_left
  · (intro w hSw; (try dsimp only at hSw); go_simp; try with_reducible rfl)
  try simp only [List.getElem_toArray, List.getElem_cons_succ, List.getElem_cons_zero, Act.put, List.setIfInBounds_toArray, List.set_cons_zero, List.set_cons_succ]
  refine wpAnyH_done (by kernel_rfl) ?_ _
  clear hHeld KEEP hw1 hw2 hw3
  obtain ⟨g, hg⟩ : ∃ g, wn3.heap.size = g := ⟨_, rfl⟩
  rw [hg] at HKN ⊢
  generalize wn3.alloc (.cells #[.int .i64 (((bstr b.pre).size : Int) - ((bstr a.pre).size : Int)), .int .i64 (b.made - a.made), .int .i64 (none1 b - none1 a), .int .i64 (scmp a.id b.id)] 3) = wZ at *
  clear hg
  have HBZ := Lib.hid (HB.out.trans (HGZ.out.mono HB.out.size))
  obtain ⟨l, hl⟩ : ∃ l : List Int, l = [(b.pre.length : Int) - (a.pre.length : Int), b.made - a.made, none1 b - none1 a, scmp a.id b.id] := ⟨_, rfl⟩
  have HL4 : l.length = 4 := by rw [hl]; rfl
  have HKL : Hid (Blk wZ g 3 (l.map (.int .i64))) := Lib.hid (by rw [hl]; exact HKN.out)
  rw [← hl] at HF
  clear HKN HGZ HB hl
  go_wp2_with fail
  go_loop [31] (fun i => ∃ k : Nat, k ≤ l.length ∧ i = .int .i64 k ∧ Hid (∀ j, j < k → ∀ hj : j < l.length, l[j] = 0)) (fun i => l.length - (intOf i).toNat)
  case atStart => exact ⟨0, by omega, rfl, Lib.hid (fun j hj => absurd hj (by omega))⟩
  case round =>
    obtain ⟨k, hk, rfl, HS⟩ := hrel
    by_cases hlt : k < l.length
    · have hc : wZ.cell? ⟨g, k, none⟩ = some (.int .i64 l[k]) := by rw [HKL.out.cell k, List.getElem?_map, List.getElem?_eq_getElem hlt]; rfl
      have HA := Lib.hid (fun h => sgL_neg hlt HS.out h)
      have HP := Lib.hid (fun h => sgL_pos hlt HS.out h)
      have HN : Hid (l[k] = 0 → ∀ j, j < k + 1 → ∀ hj : j < l.length, l[j] = 0) := Lib.hid (fun h j hj hjl => by
        by_cases e : j = k
        · subst e; exact h
        · exact HS.out j (by omega) hjl)
      generalize l[k] = x at *
      have hm0 : (0 : Int) ≤ (k : Int) := by omega
      have hmL : (k : Int) < 4 := by omega
      by_cases hx : x < 0
      · have HR := Lib.hid (HF.out.trans (HA.out hx))
        clear HN HA HP
        go_wp2
        go_ret
        exact ⟨by rw [HR.out]; rfl, HBZ.out⟩
      by_cases hx2 : 0 < x
      · have HR := Lib.hid (HF.out.trans (HP.out hx2))
        clear HN HA HP
        go_wp2
        go_ret
        exact ⟨by rw [HR.out]; rfl, HBZ.out⟩
      have HN2 := Lib.hid (HN.out (by omega))
      clear HN HA HP
      go_wp2
      go_round
      case rel => exact ⟨k + 1, by omega, by go_num, HN2⟩
      case measure => simp [intOf]; omega
    · obtain rfl : k = l.length := by omega
      have HR := Lib.hid (HF.out.trans (sgL_none fun j hj => HS.out j hj hj))
      have hmL : ¬ (l.length : Int) < 4 := by omega
      go_wp2
      go_ret
      exact ⟨by rw [HR.out]; rfl, HBZ.out⟩
end Go.Proofs.YtdljgjlkfihjdaaGreatDoor
