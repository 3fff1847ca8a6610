/-
  'rightOf' of package rights and of the reference of chapter 10.
-/
import Derived.Test.YtdljgjlkfihjdaaGreatDoorChkRights
namespace Go.Proofs.YtdljgjlkfihjdaaGreatDoor
open Go.RowKit
set_option linter.unusedVariables false
set_option linter.unusedSimpArgs false

set_option maxRecDepth 100000 in
set_option maxHeartbeats 8000000 in
theorem rightOf_any (v : Value) (l : List Rgt) (c : Cap) (at_ : Int) (w : World) (h0 : (Rp.sl rgtRp).ok w (· < w.heap.size) [v] l) (hm : l.length ≤ 1000) (hck : c.key.length ≤ 9223372036854775807) :
    Calls Tryz.prog 18 #[v, .agg #[.string (bstr c.key), .int .i64 c.time], .int .i64 at_] w fun e w' => e = .returned (.int .i64 (rightIx l c at_)) ∧ Below w.heap.size w w' := by
  obtain ⟨A, cc, rfl, hl, hc, _⟩ := Rp.sl_open h0
  unfold maxLen at hc
  have hal0 := (Below.refl w.heap.size w).alloc (Nat.le_refl _) (.cells #[.string (bstr c.key), .int .i64 c.time] 25)
  have HB0 := Lib.hid hal0
  have HKC := Lib.hid (Blk.new w 25 (capCells c))
  have H0 := Lib.hid h0
  clear h0 hal0
  go_enter Tryz.func18, Tryz.ntmps18
  go_wp2_with fail
  generalize hw1 : w.alloc (.cells #[.string (bstr c.key), .int .i64 c.time] 25) = w1 at *
  have HKC1 : Hid (Blk w1 w.heap.size 25 (capCells c)) := Lib.hid (by rw [← hw1]; exact HKC.out)
  clear HKC hw1
  obtain ⟨cb, hcb⟩ : ∃ cb, cb = w.heap.size := ⟨_, rfl⟩
  have HCBE := Lib.hid hcb
  rw [← hcb] at HKC1 ⊢
  clear hcb
  go_loopw [7, 12] (fun vb vi wr => ∃ k : Nat, k ≤ l.length ∧ vi = .int .i64 k ∧ vb = .int .i64 (rOf l c at_ k) ∧ Hid (Below w1.heap.size w1 wr)) (fun _ vi _ => l.length - (intOf vi).toNat)
  case atStart => exact ⟨0, by omega, rfl, rfl, Below.refl _ _⟩
  case round =>
    obtain ⟨k, hk, rfl, hvb, HB⟩ := hrel
    subst hvb
    have HBW : Hid (Below w.heap.size w wr) := Lib.hid (HB0.out.trans (HB.out.mono HB0.out.size))
    by_cases hlt : k < l.length
    · obtain ⟨ad, c', e1, hadb, c0, c1, c2, c3, c4, c5, c6, c7, c8, hz⟩ := rgt_at (Rp.below _ H0.out HBW.out) hlt
      injection e1 with e1 _ e2
      subst e1 e2
      obtain ⟨hz0, hz1, hw2, hw3, hw4, hw5, hw6, hw7, hz8⟩ := hz
      unfold maxLen at hz1
      have hxp : l[k].pre.length ≤ 9223372036854775807 := by omega
      have HR : Hid (rOf l c at_ (k + 1) = if concB l[k] c at_ = true ∧ (rOf l c at_ k < 0 ∨ near l[k] (l.getD (rOf l c at_ k).toNat default) < 0) then (k : Int) else rOf l c at_ k) := Lib.hid (by rw [rOf, getD_at _ _ hlt])
      have hrr := rOf_range l c at_ k

      generalize hx : l[k] = x at *
      clear hx
      have hal := (Below.refl wr.heap.size wr).alloc (Nat.le_refl _) (.cells #[.string (bstr x.id), .string (bstr x.pre), .int .i64 x.frm, .int .i64 x.to, .int .i64 x.st, .int .i64 x.en, .int .i64 x.made, .int .i64 x.kind, .string (bstr x.team)] 38)
      have HB4 := Lib.hid (HB.out.trans (hal.mono HB.out.size))
      have HBW4 := Lib.hid (HBW.out.trans (hal.mono HBW.out.size))
      have HKX := Lib.hid (Blk.new wr 38 [.string (bstr x.id), .string (bstr x.pre), .int .i64 x.frm, .int .i64 x.to, .int .i64 x.st, .int .i64 x.en, .int .i64 x.made, .int .i64 x.kind, .string (bstr x.team)])
      have HKC4 := Lib.hid ((HKC1.out.same (same_below HB.out) HKC1.out.lt).same (same_below hal) (Nat.lt_of_lt_of_le HKC1.out.lt HB.out.size))
      clear hal
      go_wp2_with fail
      clear c0 c1 c2 c3 c4 c5 c6 c7 c8
      obtain ⟨xb, hxb⟩ : ∃ xb, xb = wr.heap.size := ⟨_, rfl⟩
      rw [← hxb] at HKX ⊢
      clear hxb
      generalize wr.alloc (.cells #[.string (bstr x.id), .string (bstr x.pre), .int .i64 x.frm, .int .i64 x.to, .int .i64 x.st, .int .i64 x.en, .int .i64 x.made, .int .i64 x.kind, .string (bstr x.team)] 38) = wr4 at *
      generalize rOf l c at_ k = R at *
      unfold capCells at HKC4
      cases hcb : concB x c at_ with
      | false =>
        have HE : Hid (rOf l c at_ (k + 1) = R) := Lib.hid (HR.out.trans (if_neg (fun e => by rw [hcb] at e; exact absurd e.1 (by decide))))
        have HCN : Hid (∀ W, Calls Tryz.prog 37 #[.agg #[.string (bstr x.id), .string (bstr x.pre), .int .i64 x.frm, .int .i64 x.to, .int .i64 x.st, .int .i64 x.en, .int .i64 x.made, .int .i64 x.kind, .string (bstr x.team)], .agg #[.string (bstr c.key), .int .i64 c.time], .int .i64 at_] W fun e w' => e = .returned (.bool false) ∧ Below W.heap.size W w') := Lib.hid (fun W => by have := concerns_any x c at_ W hck; rw [hcb] at this; exact this)
        clear hcb HR
        have KEEP : Hid (∀ w', Below wr4.heap.size wr4 w' → (w'.cell? ⟨xb, 0, none⟩ = some (.string (bstr x.id)) ∧ w'.cell? ⟨xb, 1, none⟩ = some (.string (bstr x.pre)) ∧ w'.cell? ⟨xb, 2, none⟩ = some (.int .i64 x.frm) ∧ w'.cell? ⟨xb, 3, none⟩ = some (.int .i64 x.to) ∧ w'.cell? ⟨xb, 4, none⟩ = some (.int .i64 x.st) ∧ w'.cell? ⟨xb, 5, none⟩ = some (.int .i64 x.en) ∧ w'.cell? ⟨xb, 6, none⟩ = some (.int .i64 x.made) ∧ w'.cell? ⟨xb, 7, none⟩ = some (.int .i64 x.kind) ∧ w'.cell? ⟨xb, 8, none⟩ = some (.string (bstr x.team)) ∧ w'.cell? ⟨cb, 0, none⟩ = some (.string (bstr c.key)) ∧ w'.cell? ⟨cb, 1, none⟩ = some (.int .i64 c.time))) := Lib.hid (fun w' hg => by
          have h1 := HKX.out.same (same_below hg) HKX.out.lt
          have h2 := HKC4.out.same (same_below hg) HKC4.out.lt
          exact ⟨h1.cell 0, h1.cell 1, h1.cell 2, h1.cell 3, h1.cell 4, h1.cell 5, h1.cell 6, h1.cell 7, h1.cell 8, h2.cell 0, h2.cell 1⟩)
        refine wp_region_held_drew (S := fun w' => w'.cell? ⟨xb, 0, none⟩ = some (.string (bstr x.id)) ∧ w'.cell? ⟨xb, 1, none⟩ = some (.string (bstr x.pre)) ∧ w'.cell? ⟨xb, 2, none⟩ = some (.int .i64 x.frm) ∧ w'.cell? ⟨xb, 3, none⟩ = some (.int .i64 x.to) ∧ w'.cell? ⟨xb, 4, none⟩ = some (.int .i64 x.st) ∧ w'.cell? ⟨xb, 5, none⟩ = some (.int .i64 x.en) ∧ w'.cell? ⟨xb, 6, none⟩ = some (.int .i64 x.made) ∧ w'.cell? ⟨xb, 7, none⟩ = some (.int .i64 x.kind) ∧ w'.cell? ⟨xb, 8, none⟩ = some (.string (bstr x.team)) ∧ w'.cell? ⟨cb, 0, none⟩ = some (.string (bstr c.key)) ∧ w'.cell? ⟨cb, 1, none⟩ = some (.int .i64 c.time)) (by kernel_rfl) (KEEP.out _ (Below.drew (Below.refl _ _))) (fun hHeld => ?_)
        obtain ⟨wq, hwq⟩ : ∃ wq, wq = World.drew wr4 := ⟨_, rfl⟩
        have HG0 : Hid (Below wr4.heap.size wr4 wq) := Lib.hid (by rw [hwq]; exact Below.drew (Below.refl _ _))
        rw [← hwq] at hHeld ⊢
        clear hwq
        refine wpAnyH_take (i := 0) (v := ?_) rfl (by kernel_rfl) (by kernel_rfl) (by kernel_rfl) (fun _ _ _ h => h) (Or.inl ⟨by rfl, ?_⟩) (by assumption) ?_
        rotate_left
        · (intro w hSw; (try dsimp only at hSw); go_simp; try with_reducible rfl)
        try simp only [List.getElem_toArray, List.getElem_cons_succ, List.getElem_cons_zero, Act.put, List.setIfInBounds_toArray, List.set_cons_zero, List.set_cons_succ]
        refine wpAnyH_take (i := 1) (v := ?_) rfl (by kernel_rfl) (by kernel_rfl) (by kernel_rfl) (fun _ _ _ h => h) (Or.inl ⟨by rfl, ?_⟩) (by assumption) ?_
        rotate_left
        · (intro w hSw; (try dsimp only at hSw); go_simp; try with_reducible rfl)
        try simp only [List.getElem_toArray, List.getElem_cons_succ, List.getElem_cons_zero, Act.put, List.setIfInBounds_toArray, List.set_cons_zero, List.set_cons_succ]
        refine wpAnyH_take (i := 2) (v := ?_) rfl (by kernel_rfl) (by kernel_rfl) (by kernel_rfl) (fun _ _ _ h => h) (Or.inl ⟨by rfl, ?_⟩) (by assumption) ?_
        rotate_left
        · (intro w hSw; (try dsimp only at hSw); go_simp; try with_reducible rfl)
        try simp only [List.getElem_toArray, List.getElem_cons_succ, List.getElem_cons_zero, Act.put, List.setIfInBounds_toArray, List.set_cons_zero, List.set_cons_succ]
        refine wpAnyH_ready (rs := [3]) (by kernel_rfl) (by simp) ?_
        refine AllReadyH.cons rfl (fun K hK => ?_) AllReadyH.nil
        rw [if_pos (by rfl)]
        simp only [List.getElem_toArray, List.getElem_cons_succ, List.getElem_cons_zero]
        go_simp
        go_at_call 37
        refine (HCN.out _).mono ?_
        rintro e w5 ⟨rfl, hw⟩
        have HG5 : Hid (Below wr4.heap.size wr4 w5) := Lib.hid (HG0.out.trans (hw.mono HG0.out.size))
        clear hw
        show K _ w5
        refine hK.out _ _ (KEEP.out _ HG5.out) (fun hHeld => ?_)
        clear hK K
        try simp only [List.getElem_toArray, List.getElem_cons_succ, List.getElem_cons_zero, Act.put, List.setIfInBounds_toArray, List.set_cons_zero, List.set_cons_succ]
        refine wpAnyH_take (i := 4) (v := ?_) rfl (by kernel_rfl) (by kernel_rfl) (by kernel_rfl) (fun _ _ _ h => h) (Or.inl ⟨by rfl, ?_⟩) (by assumption) ?_
        rotate_left
        · (intro w hSw; (try dsimp only at hSw); go_simp; try with_reducible rfl)
        try simp only [List.getElem_toArray, List.getElem_cons_succ, List.getElem_cons_zero, Act.put, List.setIfInBounds_toArray, List.set_cons_zero, List.set_cons_succ]
        refine wpAnyH_take (i := 5) (v := undef) rfl (by kernel_rfl) (by kernel_rfl) (by kernel_rfl) (fun _ _ _ h => h) (Or.inr ⟨by rfl, rfl⟩) (by assumption) ?_
        try simp only [List.getElem_toArray, List.getElem_cons_succ, List.getElem_cons_zero, Act.put, List.setIfInBounds_toArray, List.set_cons_zero, List.set_cons_succ]
        refine wpAnyH_take (i := 6) (v := undef) rfl (by kernel_rfl) (by kernel_rfl) (by kernel_rfl) (fun _ _ _ h => h) (Or.inr ⟨by rfl, rfl⟩) (by assumption) ?_
        try simp only [List.getElem_toArray, List.getElem_cons_succ, List.getElem_cons_zero, Act.put, List.setIfInBounds_toArray, List.set_cons_zero, List.set_cons_succ]
        refine wpAnyH_take (i := 7) (v := undef) rfl (by kernel_rfl) (by kernel_rfl) (by kernel_rfl) (fun _ _ _ h => h) (Or.inr ⟨by rfl, rfl⟩) (by assumption) ?_
        try simp only [List.getElem_toArray, List.getElem_cons_succ, List.getElem_cons_zero, Act.put, List.setIfInBounds_toArray, List.set_cons_zero, List.set_cons_succ]
        refine wpAnyH_take (i := 8) (v := undef) rfl (by kernel_rfl) (by kernel_rfl) (by kernel_rfl) (fun _ _ _ h => h) (Or.inr ⟨by rfl, rfl⟩) (by assumption) ?_
        try simp only [List.getElem_toArray, List.getElem_cons_succ, List.getElem_cons_zero, Act.put, List.setIfInBounds_toArray, List.set_cons_zero, List.set_cons_succ]
        refine wpAnyH_take (i := 9) (v := undef) rfl (by kernel_rfl) (by kernel_rfl) (by kernel_rfl) (fun _ _ _ h => h) (Or.inr ⟨by rfl, rfl⟩) (by assumption) ?_
        try simp only [List.getElem_toArray, List.getElem_cons_succ, List.getElem_cons_zero, Act.put, List.setIfInBounds_toArray, List.set_cons_zero, List.set_cons_succ]
        refine wpAnyH_take (i := 10) (v := undef) rfl (by kernel_rfl) (by kernel_rfl) (by kernel_rfl) (fun _ _ _ h => h) (Or.inr ⟨by rfl, rfl⟩) (by assumption) ?_
        try simp only [List.getElem_toArray, List.getElem_cons_succ, List.getElem_cons_zero, Act.put, List.setIfInBounds_toArray, List.set_cons_zero, List.set_cons_succ]
        refine wpAnyH_take (i := 11) (v := undef) rfl (by kernel_rfl) (by kernel_rfl) (by kernel_rfl) (fun _ _ _ h => h) (Or.inr ⟨by rfl, rfl⟩) (by assumption) ?_
        try simp only [List.getElem_toArray, List.getElem_cons_succ, List.getElem_cons_zero, Act.put, List.setIfInBounds_toArray, List.set_cons_zero, List.set_cons_succ]
        refine wpAnyH_take (i := 12) (v := undef) rfl (by kernel_rfl) (by kernel_rfl) (by kernel_rfl) (fun _ _ _ h => h) (Or.inr ⟨by rfl, rfl⟩) (by assumption) ?_
        try simp only [List.getElem_toArray, List.getElem_cons_succ, List.getElem_cons_zero, Act.put, List.setIfInBounds_toArray, List.set_cons_zero, List.set_cons_succ]
        refine wpAnyH_take (i := 13) (v := undef) rfl (by kernel_rfl) (by kernel_rfl) (by kernel_rfl) (fun _ _ _ h => h) (Or.inr ⟨by rfl, rfl⟩) (by assumption) ?_
        try simp only [List.getElem_toArray, List.getElem_cons_succ, List.getElem_cons_zero, Act.put, List.setIfInBounds_toArray, List.set_cons_zero, List.set_cons_succ]
        refine wpAnyH_take (i := 14) (v := undef) rfl (by kernel_rfl) (by kernel_rfl) (by kernel_rfl) (fun _ _ _ h => h) (Or.inr ⟨by rfl, rfl⟩) (by assumption) ?_
        try simp only [List.getElem_toArray, List.getElem_cons_succ, List.getElem_cons_zero, Act.put, List.setIfInBounds_toArray, List.set_cons_zero, List.set_cons_succ]
        refine wpAnyH_take (i := 15) (v := undef) rfl (by kernel_rfl) (by kernel_rfl) (by kernel_rfl) (fun _ _ _ h => h) (Or.inr ⟨by rfl, rfl⟩) (by assumption) ?_
        try simp only [List.getElem_toArray, List.getElem_cons_succ, List.getElem_cons_zero, Act.put, List.setIfInBounds_toArray, List.set_cons_zero, List.set_cons_succ]
        refine wpAnyH_take (i := 16) (v := ?_) rfl (by kernel_rfl) (by kernel_rfl) (by kernel_rfl) (fun _ _ _ h => h) (Or.inl ⟨by rfl, ?_⟩) (by assumption) ?_
        rotate_left
        · (intro w hSw; (try dsimp only at hSw); go_simp; try with_reducible rfl)
        try simp only [List.getElem_toArray, List.getElem_cons_succ, List.getElem_cons_zero, Act.put, List.setIfInBounds_toArray, List.set_cons_zero, List.set_cons_succ]
        refine wpAnyH_done (by kernel_rfl) ?_ _
        clear hHeld KEEP
        have HBZ := Lib.hid (HB4.out.trans (HG5.out.mono HB4.out.size))
        go_wp2_with fail
        go_roundw
        case rel => first | exact ⟨k + 1, by omega, by go_num, by rw [HE.out], HBZ⟩ | (repeat (apply Exists.intro); (refine And.intro ?_ ?_; rotate_left; (repeat' (first | exact rfl | apply And.intro)); exact ⟨k + 1, by omega, by go_num, by rw [HE.out], HBZ⟩))
        case measure => simp [intOf]; omega
      | true =>
      have HCN : Hid (∀ W, Calls Tryz.prog 37 #[.agg #[.string (bstr x.id), .string (bstr x.pre), .int .i64 x.frm, .int .i64 x.to, .int .i64 x.st, .int .i64 x.en, .int .i64 x.made, .int .i64 x.kind, .string (bstr x.team)], .agg #[.string (bstr c.key), .int .i64 c.time], .int .i64 at_] W fun e w' => e = .returned (.bool true) ∧ Below W.heap.size W w') := Lib.hid (fun W => by have := concerns_any x c at_ W hck; rw [hcb] at this; exact this)
      by_cases hR : R < 0
      · have HE : Hid (rOf l c at_ (k + 1) = (k : Int)) := Lib.hid (HR.out.trans (if_pos ⟨hcb, .inl hR⟩))
        have n1 : decide (R < 0) = true := decide_eq_true hR
        clear hcb HR
        have KEEP : Hid (∀ w', Below wr4.heap.size wr4 w' → (w'.cell? ⟨xb, 0, none⟩ = some (.string (bstr x.id)) ∧ w'.cell? ⟨xb, 1, none⟩ = some (.string (bstr x.pre)) ∧ w'.cell? ⟨xb, 2, none⟩ = some (.int .i64 x.frm) ∧ w'.cell? ⟨xb, 3, none⟩ = some (.int .i64 x.to) ∧ w'.cell? ⟨xb, 4, none⟩ = some (.int .i64 x.st) ∧ w'.cell? ⟨xb, 5, none⟩ = some (.int .i64 x.en) ∧ w'.cell? ⟨xb, 6, none⟩ = some (.int .i64 x.made) ∧ w'.cell? ⟨xb, 7, none⟩ = some (.int .i64 x.kind) ∧ w'.cell? ⟨xb, 8, none⟩ = some (.string (bstr x.team)) ∧ w'.cell? ⟨cb, 0, none⟩ = some (.string (bstr c.key)) ∧ w'.cell? ⟨cb, 1, none⟩ = some (.int .i64 c.time))) := Lib.hid (fun w' hg => by
          have h1 := HKX.out.same (same_below hg) HKX.out.lt
          have h2 := HKC4.out.same (same_below hg) HKC4.out.lt
          exact ⟨h1.cell 0, h1.cell 1, h1.cell 2, h1.cell 3, h1.cell 4, h1.cell 5, h1.cell 6, h1.cell 7, h1.cell 8, h2.cell 0, h2.cell 1⟩)
        refine wp_region_held_drew (S := fun w' => w'.cell? ⟨xb, 0, none⟩ = some (.string (bstr x.id)) ∧ w'.cell? ⟨xb, 1, none⟩ = some (.string (bstr x.pre)) ∧ w'.cell? ⟨xb, 2, none⟩ = some (.int .i64 x.frm) ∧ w'.cell? ⟨xb, 3, none⟩ = some (.int .i64 x.to) ∧ w'.cell? ⟨xb, 4, none⟩ = some (.int .i64 x.st) ∧ w'.cell? ⟨xb, 5, none⟩ = some (.int .i64 x.en) ∧ w'.cell? ⟨xb, 6, none⟩ = some (.int .i64 x.made) ∧ w'.cell? ⟨xb, 7, none⟩ = some (.int .i64 x.kind) ∧ w'.cell? ⟨xb, 8, none⟩ = some (.string (bstr x.team)) ∧ w'.cell? ⟨cb, 0, none⟩ = some (.string (bstr c.key)) ∧ w'.cell? ⟨cb, 1, none⟩ = some (.int .i64 c.time)) (by kernel_rfl) (KEEP.out _ (Below.drew (Below.refl _ _))) (fun hHeld => ?_)
        obtain ⟨wq, hwq⟩ : ∃ wq, wq = World.drew wr4 := ⟨_, rfl⟩
        have HG0 : Hid (Below wr4.heap.size wr4 wq) := Lib.hid (by rw [hwq]; exact Below.drew (Below.refl _ _))
        rw [← hwq] at hHeld ⊢
        clear hwq
        refine wpAnyH_take (i := 0) (v := ?_) rfl (by kernel_rfl) (by kernel_rfl) (by kernel_rfl) (fun _ _ _ h => h) (Or.inl ⟨by rfl, ?_⟩) (by assumption) ?_
        rotate_left
        · (intro w hSw; (try dsimp only at hSw); go_simp; try with_reducible rfl)
        try simp only [List.getElem_toArray, List.getElem_cons_succ, List.getElem_cons_zero, Act.put, List.setIfInBounds_toArray, List.set_cons_zero, List.set_cons_succ]
        refine wpAnyH_take (i := 1) (v := ?_) rfl (by kernel_rfl) (by kernel_rfl) (by kernel_rfl) (fun _ _ _ h => h) (Or.inl ⟨by rfl, ?_⟩) (by assumption) ?_
        rotate_left
        · (intro w hSw; (try dsimp only at hSw); go_simp; try with_reducible rfl)
        try simp only [List.getElem_toArray, List.getElem_cons_succ, List.getElem_cons_zero, Act.put, List.setIfInBounds_toArray, List.set_cons_zero, List.set_cons_succ]
        refine wpAnyH_take (i := 2) (v := ?_) rfl (by kernel_rfl) (by kernel_rfl) (by kernel_rfl) (fun _ _ _ h => h) (Or.inl ⟨by rfl, ?_⟩) (by assumption) ?_
        rotate_left
        · (intro w hSw; (try dsimp only at hSw); go_simp; try with_reducible rfl)
        try simp only [List.getElem_toArray, List.getElem_cons_succ, List.getElem_cons_zero, Act.put, List.setIfInBounds_toArray, List.set_cons_zero, List.set_cons_succ]
        refine wpAnyH_ready (rs := [3]) (by kernel_rfl) (by simp) ?_
        refine AllReadyH.cons rfl (fun K hK => ?_) AllReadyH.nil
        rw [if_pos (by rfl)]
        simp only [List.getElem_toArray, List.getElem_cons_succ, List.getElem_cons_zero]
        go_simp
        go_at_call 37
        refine (HCN.out _).mono ?_
        rintro e w5 ⟨rfl, hw⟩
        have HG5 : Hid (Below wr4.heap.size wr4 w5) := Lib.hid (HG0.out.trans (hw.mono HG0.out.size))
        clear hw
        show K _ w5
        refine hK.out _ _ (KEEP.out _ HG5.out) (fun hHeld => ?_)
        clear hK K
        try simp only [List.getElem_toArray, List.getElem_cons_succ, List.getElem_cons_zero, Act.put, List.setIfInBounds_toArray, List.set_cons_zero, List.set_cons_succ]
        refine wpAnyH_take (i := 4) (v := ?_) rfl (by kernel_rfl) (by kernel_rfl) (by kernel_rfl) (fun _ _ _ h => h) (Or.inl ⟨by rfl, ?_⟩) (by assumption) ?_
        rotate_left
        · (intro w hSw; (try dsimp only at hSw); go_simp; try with_reducible rfl)
        try simp only [List.getElem_toArray, List.getElem_cons_succ, List.getElem_cons_zero, Act.put, List.setIfInBounds_toArray, List.set_cons_zero, List.set_cons_succ]
        refine wpAnyH_take (i := 5) (v := ?_) rfl (by kernel_rfl) (by kernel_rfl) (by kernel_rfl) (fun _ _ _ h => h) (Or.inl ⟨by rfl, ?_⟩) (by assumption) ?_
        rotate_left
        · (intro w hSw; (try dsimp only at hSw); go_simp; try with_reducible rfl)
        try simp only [List.getElem_toArray, List.getElem_cons_succ, List.getElem_cons_zero, Act.put, List.setIfInBounds_toArray, List.set_cons_zero, List.set_cons_succ]
        refine wpAnyH_take (i := 6) (v := ?_) rfl (by kernel_rfl) (by kernel_rfl) (by kernel_rfl) (fun _ _ _ h => h) (Or.inl ⟨by rfl, ?_⟩) (by assumption) ?_
        rotate_left
        · (intro w hSw; (try dsimp only at hSw); go_simp; try with_reducible rfl)
        try simp only [List.getElem_toArray, List.getElem_cons_succ, List.getElem_cons_zero, Act.put, List.setIfInBounds_toArray, List.set_cons_zero, List.set_cons_succ]
        refine wpAnyH_take (i := 7) (v := ?_) rfl (by kernel_rfl) (by kernel_rfl) (by kernel_rfl) (fun _ _ _ h => h) (Or.inl ⟨by rfl, ?_⟩) (by assumption) ?_
        rotate_left
        · (intro w hSw; (try dsimp only at hSw); go_simp; try with_reducible rfl)
        try simp only [List.getElem_toArray, List.getElem_cons_succ, List.getElem_cons_zero, Act.put, List.setIfInBounds_toArray, List.set_cons_zero, List.set_cons_succ]
        refine wpAnyH_take (i := 8) (v := undef) rfl (by kernel_rfl) (by kernel_rfl) (by kernel_rfl) (fun _ _ _ h => h) (Or.inr ⟨by rfl, rfl⟩) (by assumption) ?_
        try simp only [List.getElem_toArray, List.getElem_cons_succ, List.getElem_cons_zero, Act.put, List.setIfInBounds_toArray, List.set_cons_zero, List.set_cons_succ]
        refine wpAnyH_take (i := 9) (v := undef) rfl (by kernel_rfl) (by kernel_rfl) (by kernel_rfl) (fun _ _ _ h => h) (Or.inr ⟨by rfl, rfl⟩) (by assumption) ?_
        try simp only [List.getElem_toArray, List.getElem_cons_succ, List.getElem_cons_zero, Act.put, List.setIfInBounds_toArray, List.set_cons_zero, List.set_cons_succ]
        refine wpAnyH_take (i := 10) (v := undef) rfl (by kernel_rfl) (by kernel_rfl) (by kernel_rfl) (fun _ _ _ h => h) (Or.inr ⟨by rfl, rfl⟩) (by assumption) ?_
        try simp only [List.getElem_toArray, List.getElem_cons_succ, List.getElem_cons_zero, Act.put, List.setIfInBounds_toArray, List.set_cons_zero, List.set_cons_succ]
        refine wpAnyH_take (i := 11) (v := undef) rfl (by kernel_rfl) (by kernel_rfl) (by kernel_rfl) (fun _ _ _ h => h) (Or.inr ⟨by rfl, rfl⟩) (by assumption) ?_
        try simp only [List.getElem_toArray, List.getElem_cons_succ, List.getElem_cons_zero, Act.put, List.setIfInBounds_toArray, List.set_cons_zero, List.set_cons_succ]
        refine wpAnyH_take (i := 12) (v := undef) rfl (by kernel_rfl) (by kernel_rfl) (by kernel_rfl) (fun _ _ _ h => h) (Or.inr ⟨by rfl, rfl⟩) (by assumption) ?_
        try simp only [List.getElem_toArray, List.getElem_cons_succ, List.getElem_cons_zero, Act.put, List.setIfInBounds_toArray, List.set_cons_zero, List.set_cons_succ]
        refine wpAnyH_take (i := 13) (v := undef) rfl (by kernel_rfl) (by kernel_rfl) (by kernel_rfl) (fun _ _ _ h => h) (Or.inr ⟨by rfl, rfl⟩) (by assumption) ?_
        try simp only [List.getElem_toArray, List.getElem_cons_succ, List.getElem_cons_zero, Act.put, List.setIfInBounds_toArray, List.set_cons_zero, List.set_cons_succ]
        refine wpAnyH_take (i := 14) (v := undef) rfl (by kernel_rfl) (by kernel_rfl) (by kernel_rfl) (fun _ _ _ h => h) (Or.inr ⟨by rfl, rfl⟩) (by assumption) ?_
        try simp only [List.getElem_toArray, List.getElem_cons_succ, List.getElem_cons_zero, Act.put, List.setIfInBounds_toArray, List.set_cons_zero, List.set_cons_succ]
        refine wpAnyH_take (i := 15) (v := ?_) rfl (by kernel_rfl) (by kernel_rfl) (by kernel_rfl) (fun _ _ _ h => h) (Or.inl ⟨by rfl, ?_⟩) (by assumption) ?_
        rotate_left
        · (intro w hSw; (try dsimp only at hSw); go_simp; try with_reducible rfl)
        try simp only [List.getElem_toArray, List.getElem_cons_succ, List.getElem_cons_zero, Act.put, List.setIfInBounds_toArray, List.set_cons_zero, List.set_cons_succ]
        refine wpAnyH_take (i := 16) (v := ?_) rfl (by kernel_rfl) (by kernel_rfl) (by kernel_rfl) (fun _ _ _ h => h) (Or.inl ⟨by rfl, ?_⟩) (by assumption) ?_
        rotate_left
        · (intro w hSw; (try dsimp only at hSw); go_simp; try with_reducible rfl)
        try simp only [List.getElem_toArray, List.getElem_cons_succ, List.getElem_cons_zero, Act.put, List.setIfInBounds_toArray, List.set_cons_zero, List.set_cons_succ]
        refine wpAnyH_done (by kernel_rfl) ?_ _
        clear hHeld KEEP
        have HBZ := Lib.hid (HB4.out.trans (HG5.out.mono HB4.out.size))
        go_wp2_with fail
        go_roundw
        case rel => first | exact ⟨k + 1, by omega, by go_num, by rw [HE.out], HBZ⟩ | (repeat (apply Exists.intro); (refine And.intro ?_ ?_; rotate_left; (repeat' (first | exact rfl | apply And.intro)); exact ⟨k + 1, by omega, by go_num, by rw [HE.out], HBZ⟩))
        case measure => simp [intOf]; omega
      · obtain ⟨b, rfl⟩ : ∃ b : Nat, R = (b : Int) := ⟨R.toNat, (Int.toNat_of_nonneg (by omega)).symm⟩
        have hbl : b < l.length := by omega
        rw [Int.toNat_natCast, getD_at _ _ hbl] at HR
        obtain ⟨ad2, c2', e1, hadb2, y0, y1, y2, y3, y4, y5, y6, y7, y8, hy⟩ := rgt_at (Rp.below _ H0.out HBW4.out) hbl
        cases e1
        have HYB : Hid ((ad.add (b * 9)).block < wr4.heap.size) := Lib.hid (by rw [add_block]; exact Nat.lt_of_lt_of_le hadb2 HBW4.out.size)
        obtain ⟨_, hyp, _⟩ := hy
        unfold maxLen at hyp
        have hyp : l[b].pre.length ≤ 9223372036854775807 := by omega

        generalize l[b] = y at *
        have HY0 := Lib.hid y0
        have HY1 := Lib.hid y1
        have HY2 := Lib.hid y2
        have HY3 := Lib.hid y3
        have HY4 := Lib.hid y4
        have HY5 := Lib.hid y5
        have HY6 := Lib.hid y6
        have HY7 := Lib.hid y7
        have HY8 := Lib.hid y8
        clear y0 y1 y2 y3 y4 y5 y6 y7 y8 hadb2
        have n1 : decide ((b : Int) < 0) = false := decide_eq_false (by omega)
        have n1b : ¬ (b : Int) < 0 := by omega
        have hb0 : (0 : Int) ≤ (b : Int) := by omega
        have hbI : (b : Int) < (l.length : Int) := by omega
        have HNE : Hid (∀ W, Calls Tryz.prog 25 #[.agg #[.string (bstr x.id), .string (bstr x.pre), .int .i64 x.frm, .int .i64 x.to, .int .i64 x.st, .int .i64 x.en, .int .i64 x.made, .int .i64 x.kind, .string (bstr x.team)], .agg #[.string (bstr y.id), .string (bstr y.pre), .int .i64 y.frm, .int .i64 y.to, .int .i64 y.st, .int .i64 y.en, .int .i64 y.made, .int .i64 y.kind, .string (bstr y.team)]] W fun e w' => e = .returned (.int .i64 (near x y)) ∧ Below W.heap.size W w') := Lib.hid (fun W => near_any x y W)
        generalize hnr : near x y = nr at *
        by_cases hn : nr < 0
        · have HE : Hid (rOf l c at_ (k + 1) = (k : Int)) := Lib.hid (HR.out.trans (if_pos ⟨hcb, .inr hn⟩))
          have n2 : decide (nr < 0) = true := decide_eq_true hn
          clear hcb HR
          have KEEP : Hid (∀ w', Below wr4.heap.size wr4 w' → (w'.cell? ⟨xb, 0, none⟩ = some (.string (bstr x.id)) ∧ w'.cell? ⟨xb, 1, none⟩ = some (.string (bstr x.pre)) ∧ w'.cell? ⟨xb, 2, none⟩ = some (.int .i64 x.frm) ∧ w'.cell? ⟨xb, 3, none⟩ = some (.int .i64 x.to) ∧ w'.cell? ⟨xb, 4, none⟩ = some (.int .i64 x.st) ∧ w'.cell? ⟨xb, 5, none⟩ = some (.int .i64 x.en) ∧ w'.cell? ⟨xb, 6, none⟩ = some (.int .i64 x.made) ∧ w'.cell? ⟨xb, 7, none⟩ = some (.int .i64 x.kind) ∧ w'.cell? ⟨xb, 8, none⟩ = some (.string (bstr x.team)) ∧ w'.cell? ⟨cb, 0, none⟩ = some (.string (bstr c.key)) ∧ w'.cell? ⟨cb, 1, none⟩ = some (.int .i64 c.time) ∧ w'.cell? (ad.add (b * 9)) = some (.string (bstr y.id)) ∧ w'.cell? ⟨(ad.add (b * 9)).block, (ad.add (b * 9)).off + 1, none⟩ = some (.string (bstr y.pre)) ∧ w'.cell? ⟨(ad.add (b * 9)).block, (ad.add (b * 9)).off + 2, none⟩ = some (.int .i64 y.frm) ∧ w'.cell? ⟨(ad.add (b * 9)).block, (ad.add (b * 9)).off + 3, none⟩ = some (.int .i64 y.to) ∧ w'.cell? ⟨(ad.add (b * 9)).block, (ad.add (b * 9)).off + 4, none⟩ = some (.int .i64 y.st) ∧ w'.cell? ⟨(ad.add (b * 9)).block, (ad.add (b * 9)).off + 5, none⟩ = some (.int .i64 y.en) ∧ w'.cell? ⟨(ad.add (b * 9)).block, (ad.add (b * 9)).off + 6, none⟩ = some (.int .i64 y.made) ∧ w'.cell? ⟨(ad.add (b * 9)).block, (ad.add (b * 9)).off + 7, none⟩ = some (.int .i64 y.kind) ∧ w'.cell? ⟨(ad.add (b * 9)).block, (ad.add (b * 9)).off + 8, none⟩ = some (.string (bstr y.team)))) := Lib.hid (fun w' hg => by
            have h1 := HKX.out.same (same_below hg) HKX.out.lt
            have h2 := HKC4.out.same (same_below hg) HKC4.out.lt
            have hyb := HYB.out
            exact ⟨h1.cell 0, h1.cell 1, h1.cell 2, h1.cell 3, h1.cell 4, h1.cell 5, h1.cell 6, h1.cell 7, h1.cell 8, h2.cell 0, h2.cell 1, (hg.cell (p := (ad.add (b * 9))) hyb).trans HY0.out, (hg.cell (p := ⟨(ad.add (b * 9)).block, (ad.add (b * 9)).off + 1, none⟩) hyb).trans HY1.out, (hg.cell (p := ⟨(ad.add (b * 9)).block, (ad.add (b * 9)).off + 2, none⟩) hyb).trans HY2.out, (hg.cell (p := ⟨(ad.add (b * 9)).block, (ad.add (b * 9)).off + 3, none⟩) hyb).trans HY3.out, (hg.cell (p := ⟨(ad.add (b * 9)).block, (ad.add (b * 9)).off + 4, none⟩) hyb).trans HY4.out, (hg.cell (p := ⟨(ad.add (b * 9)).block, (ad.add (b * 9)).off + 5, none⟩) hyb).trans HY5.out, (hg.cell (p := ⟨(ad.add (b * 9)).block, (ad.add (b * 9)).off + 6, none⟩) hyb).trans HY6.out, (hg.cell (p := ⟨(ad.add (b * 9)).block, (ad.add (b * 9)).off + 7, none⟩) hyb).trans HY7.out, (hg.cell (p := ⟨(ad.add (b * 9)).block, (ad.add (b * 9)).off + 8, none⟩) hyb).trans HY8.out⟩)
          refine wp_region_held_drew (S := fun w' => w'.cell? ⟨xb, 0, none⟩ = some (.string (bstr x.id)) ∧ w'.cell? ⟨xb, 1, none⟩ = some (.string (bstr x.pre)) ∧ w'.cell? ⟨xb, 2, none⟩ = some (.int .i64 x.frm) ∧ w'.cell? ⟨xb, 3, none⟩ = some (.int .i64 x.to) ∧ w'.cell? ⟨xb, 4, none⟩ = some (.int .i64 x.st) ∧ w'.cell? ⟨xb, 5, none⟩ = some (.int .i64 x.en) ∧ w'.cell? ⟨xb, 6, none⟩ = some (.int .i64 x.made) ∧ w'.cell? ⟨xb, 7, none⟩ = some (.int .i64 x.kind) ∧ w'.cell? ⟨xb, 8, none⟩ = some (.string (bstr x.team)) ∧ w'.cell? ⟨cb, 0, none⟩ = some (.string (bstr c.key)) ∧ w'.cell? ⟨cb, 1, none⟩ = some (.int .i64 c.time) ∧ w'.cell? (ad.add (b * 9)) = some (.string (bstr y.id)) ∧ w'.cell? ⟨(ad.add (b * 9)).block, (ad.add (b * 9)).off + 1, none⟩ = some (.string (bstr y.pre)) ∧ w'.cell? ⟨(ad.add (b * 9)).block, (ad.add (b * 9)).off + 2, none⟩ = some (.int .i64 y.frm) ∧ w'.cell? ⟨(ad.add (b * 9)).block, (ad.add (b * 9)).off + 3, none⟩ = some (.int .i64 y.to) ∧ w'.cell? ⟨(ad.add (b * 9)).block, (ad.add (b * 9)).off + 4, none⟩ = some (.int .i64 y.st) ∧ w'.cell? ⟨(ad.add (b * 9)).block, (ad.add (b * 9)).off + 5, none⟩ = some (.int .i64 y.en) ∧ w'.cell? ⟨(ad.add (b * 9)).block, (ad.add (b * 9)).off + 6, none⟩ = some (.int .i64 y.made) ∧ w'.cell? ⟨(ad.add (b * 9)).block, (ad.add (b * 9)).off + 7, none⟩ = some (.int .i64 y.kind) ∧ w'.cell? ⟨(ad.add (b * 9)).block, (ad.add (b * 9)).off + 8, none⟩ = some (.string (bstr y.team))) (by kernel_rfl) (KEEP.out _ (Below.drew (Below.refl _ _))) (fun hHeld => ?_)
          obtain ⟨wq, hwq⟩ : ∃ wq, wq = World.drew wr4 := ⟨_, rfl⟩
          have HG0 : Hid (Below wr4.heap.size wr4 wq) := Lib.hid (by rw [hwq]; exact Below.drew (Below.refl _ _))
          rw [← hwq] at hHeld ⊢
          clear hwq
          refine wpAnyH_take (i := 0) (v := ?_) rfl (by kernel_rfl) (by kernel_rfl) (by kernel_rfl) (fun _ _ _ h => h) (Or.inl ⟨by rfl, ?_⟩) (by assumption) ?_
          rotate_left
          · (intro w hSw; (try dsimp only at hSw); go_simp; try with_reducible rfl)
          try simp only [List.getElem_toArray, List.getElem_cons_succ, List.getElem_cons_zero, Act.put, List.setIfInBounds_toArray, List.set_cons_zero, List.set_cons_succ]
          refine wpAnyH_take (i := 1) (v := ?_) rfl (by kernel_rfl) (by kernel_rfl) (by kernel_rfl) (fun _ _ _ h => h) (Or.inl ⟨by rfl, ?_⟩) (by assumption) ?_
          rotate_left
          · (intro w hSw; (try dsimp only at hSw); go_simp; try with_reducible rfl)
          try simp only [List.getElem_toArray, List.getElem_cons_succ, List.getElem_cons_zero, Act.put, List.setIfInBounds_toArray, List.set_cons_zero, List.set_cons_succ]
          refine wpAnyH_take (i := 2) (v := ?_) rfl (by kernel_rfl) (by kernel_rfl) (by kernel_rfl) (fun _ _ _ h => h) (Or.inl ⟨by rfl, ?_⟩) (by assumption) ?_
          rotate_left
          · (intro w hSw; (try dsimp only at hSw); go_simp; try with_reducible rfl)
          try simp only [List.getElem_toArray, List.getElem_cons_succ, List.getElem_cons_zero, Act.put, List.setIfInBounds_toArray, List.set_cons_zero, List.set_cons_succ]
          refine wpAnyH_ready (rs := [3]) (by kernel_rfl) (by simp) ?_
          refine AllReadyH.cons rfl (fun K hK => ?_) AllReadyH.nil
          rw [if_pos (by rfl)]
          simp only [List.getElem_toArray, List.getElem_cons_succ, List.getElem_cons_zero]
          go_simp
          go_at_call 37
          refine (HCN.out _).mono ?_
          rintro e w5 ⟨rfl, hw⟩
          have HG5 : Hid (Below wr4.heap.size wr4 w5) := Lib.hid (HG0.out.trans (hw.mono HG0.out.size))
          clear hw
          show K _ w5
          refine hK.out _ _ (KEEP.out _ HG5.out) (fun hHeld => ?_)
          clear hK K
          try simp only [List.getElem_toArray, List.getElem_cons_succ, List.getElem_cons_zero, Act.put, List.setIfInBounds_toArray, List.set_cons_zero, List.set_cons_succ]
          refine wpAnyH_take (i := 4) (v := ?_) rfl (by kernel_rfl) (by kernel_rfl) (by kernel_rfl) (fun _ _ _ h => h) (Or.inl ⟨by rfl, ?_⟩) (by assumption) ?_
          rotate_left
          · (intro w hSw; (try dsimp only at hSw); go_simp; try with_reducible rfl)
          try simp only [List.getElem_toArray, List.getElem_cons_succ, List.getElem_cons_zero, Act.put, List.setIfInBounds_toArray, List.set_cons_zero, List.set_cons_succ]
          refine wpAnyH_take (i := 5) (v := ?_) rfl (by kernel_rfl) (by kernel_rfl) (by kernel_rfl) (fun _ _ _ h => h) (Or.inl ⟨by rfl, ?_⟩) (by assumption) ?_
          rotate_left
          · (intro w hSw; (try dsimp only at hSw); go_simp; try with_reducible rfl)
          try simp only [List.getElem_toArray, List.getElem_cons_succ, List.getElem_cons_zero, Act.put, List.setIfInBounds_toArray, List.set_cons_zero, List.set_cons_succ]
          refine wpAnyH_take (i := 6) (v := ?_) rfl (by kernel_rfl) (by kernel_rfl) (by kernel_rfl) (fun _ _ _ h => h) (Or.inl ⟨by rfl, ?_⟩) (by assumption) ?_
          rotate_left
          · (intro w hSw; (try dsimp only at hSw); go_simp; try with_reducible rfl)
          try simp only [List.getElem_toArray, List.getElem_cons_succ, List.getElem_cons_zero, Act.put, List.setIfInBounds_toArray, List.set_cons_zero, List.set_cons_succ]
          refine wpAnyH_take (i := 7) (v := ?_) rfl (by kernel_rfl) (by kernel_rfl) (by kernel_rfl) (fun _ _ _ h => h) (Or.inl ⟨by rfl, ?_⟩) (by assumption) ?_
          rotate_left
          · (intro w hSw; (try dsimp only at hSw); go_simp; try with_reducible rfl)
          try simp only [List.getElem_toArray, List.getElem_cons_succ, List.getElem_cons_zero, Act.put, List.setIfInBounds_toArray, List.set_cons_zero, List.set_cons_succ]
          refine wpAnyH_take (i := 8) (v := ?_) rfl (by kernel_rfl) (by kernel_rfl) (by kernel_rfl) (fun _ _ _ h => h) (Or.inl ⟨by rfl, ?_⟩) (by assumption) ?_
          rotate_left
          · (intro w hSw; (try dsimp only at hSw); go_simp; try with_reducible rfl)
          try simp only [List.getElem_toArray, List.getElem_cons_succ, List.getElem_cons_zero, Act.put, List.setIfInBounds_toArray, List.set_cons_zero, List.set_cons_succ]
          refine wpAnyH_take (i := 9) (v := ?_) rfl (by kernel_rfl) (by kernel_rfl) (by kernel_rfl) (fun _ _ _ h => h) (Or.inl ⟨by rfl, ?_⟩) (by assumption) ?_
          rotate_left
          · (intro w hSw; (try dsimp only at hSw); go_simp; try with_reducible rfl)
          try simp only [List.getElem_toArray, List.getElem_cons_succ, List.getElem_cons_zero, Act.put, List.setIfInBounds_toArray, List.set_cons_zero, List.set_cons_succ]
          refine wpAnyH_take (i := 10) (v := ?_) rfl (by kernel_rfl) (by kernel_rfl) (by kernel_rfl) (fun _ _ _ h => h) (Or.inl ⟨by rfl, ?_⟩) (by assumption) ?_
          rotate_left
          · (intro w hSw; (try dsimp only at hSw); go_simp; try with_reducible rfl)
          try simp only [List.getElem_toArray, List.getElem_cons_succ, List.getElem_cons_zero, Act.put, List.setIfInBounds_toArray, List.set_cons_zero, List.set_cons_succ]
          refine wpAnyH_take (i := 11) (v := ?_) rfl (by kernel_rfl) (by kernel_rfl) (by kernel_rfl) (fun _ _ _ h => h) (Or.inl ⟨by rfl, ?_⟩) (by assumption) ?_
          rotate_left
          · (intro w hSw; (try dsimp only at hSw); go_simp; try with_reducible rfl)
          try simp only [List.getElem_toArray, List.getElem_cons_succ, List.getElem_cons_zero, Act.put, List.setIfInBounds_toArray, List.set_cons_zero, List.set_cons_succ]
          refine wpAnyH_take (i := 12) (v := ?_) rfl (by kernel_rfl) (by kernel_rfl) (by kernel_rfl) (fun _ _ _ h => h) (Or.inl ⟨by rfl, ?_⟩) (by assumption) ?_
          rotate_left
          · (intro w hSw; (try dsimp only at hSw); go_simp; try with_reducible rfl)
          try simp only [List.getElem_toArray, List.getElem_cons_succ, List.getElem_cons_zero, Act.put, List.setIfInBounds_toArray, List.set_cons_zero, List.set_cons_succ]
          refine wpAnyH_ready (rs := [13]) (by kernel_rfl) (by simp) ?_
          refine AllReadyH.cons rfl (fun K hK => ?_) AllReadyH.nil
          rw [if_pos (by rfl)]
          simp only [List.getElem_toArray, List.getElem_cons_succ, List.getElem_cons_zero]
          go_simp
          go_at_call 25
          refine (HNE.out _).mono ?_
          rintro e w6 ⟨rfl, hw⟩
          have HG6 : Hid (Below wr4.heap.size wr4 w6) := Lib.hid (HG5.out.trans (hw.mono HG5.out.size))
          clear hw
          show K _ w6
          refine hK.out _ _ (KEEP.out _ HG6.out) (fun hHeld => ?_)
          clear hK K
          try simp only [List.getElem_toArray, List.getElem_cons_succ, List.getElem_cons_zero, Act.put, List.setIfInBounds_toArray, List.set_cons_zero, List.set_cons_succ]
          refine wpAnyH_take (i := 14) (v := ?_) rfl (by kernel_rfl) (by kernel_rfl) (by kernel_rfl) (fun _ _ _ h => h) (Or.inl ⟨by rfl, ?_⟩) (by assumption) ?_
          rotate_left
          · (intro w hSw; (try dsimp only at hSw); go_simp; try with_reducible rfl)
          try simp only [List.getElem_toArray, List.getElem_cons_succ, List.getElem_cons_zero, Act.put, List.setIfInBounds_toArray, List.set_cons_zero, List.set_cons_succ]
          refine wpAnyH_take (i := 15) (v := ?_) rfl (by kernel_rfl) (by kernel_rfl) (by kernel_rfl) (fun _ _ _ h => h) (Or.inl ⟨by rfl, ?_⟩) (by assumption) ?_
          rotate_left
          · (intro w hSw; (try dsimp only at hSw); go_simp; try with_reducible rfl)
          try simp only [List.getElem_toArray, List.getElem_cons_succ, List.getElem_cons_zero, Act.put, List.setIfInBounds_toArray, List.set_cons_zero, List.set_cons_succ]
          refine wpAnyH_take (i := 16) (v := ?_) rfl (by kernel_rfl) (by kernel_rfl) (by kernel_rfl) (fun _ _ _ h => h) (Or.inl ⟨by rfl, ?_⟩) (by assumption) ?_
          rotate_left
          · (intro w hSw; (try dsimp only at hSw); go_simp; try with_reducible rfl)
          try simp only [List.getElem_toArray, List.getElem_cons_succ, List.getElem_cons_zero, Act.put, List.setIfInBounds_toArray, List.set_cons_zero, List.set_cons_succ]
          refine wpAnyH_done (by kernel_rfl) ?_ _
          clear hHeld KEEP
          have HBZ := Lib.hid (HB4.out.trans (HG6.out.mono HB4.out.size))
          go_wp2_with fail
          go_roundw
          case rel => first | exact ⟨k + 1, by omega, by go_num, by rw [HE.out], HBZ⟩ | (repeat (apply Exists.intro); (refine And.intro ?_ ?_; rotate_left; (repeat' (first | exact rfl | apply And.intro)); exact ⟨k + 1, by omega, by go_num, by rw [HE.out], HBZ⟩))
          case measure => simp [intOf]; omega
        · have HE : Hid (rOf l c at_ (k + 1) = (b : Int)) := Lib.hid (HR.out.trans (if_neg (fun e => e.2.elim (fun h => by omega) hn)))
          have n2 : decide (nr < 0) = false := decide_eq_false hn
          clear hcb HR
          have KEEP : Hid (∀ w', Below wr4.heap.size wr4 w' → (w'.cell? ⟨xb, 0, none⟩ = some (.string (bstr x.id)) ∧ w'.cell? ⟨xb, 1, none⟩ = some (.string (bstr x.pre)) ∧ w'.cell? ⟨xb, 2, none⟩ = some (.int .i64 x.frm) ∧ w'.cell? ⟨xb, 3, none⟩ = some (.int .i64 x.to) ∧ w'.cell? ⟨xb, 4, none⟩ = some (.int .i64 x.st) ∧ w'.cell? ⟨xb, 5, none⟩ = some (.int .i64 x.en) ∧ w'.cell? ⟨xb, 6, none⟩ = some (.int .i64 x.made) ∧ w'.cell? ⟨xb, 7, none⟩ = some (.int .i64 x.kind) ∧ w'.cell? ⟨xb, 8, none⟩ = some (.string (bstr x.team)) ∧ w'.cell? ⟨cb, 0, none⟩ = some (.string (bstr c.key)) ∧ w'.cell? ⟨cb, 1, none⟩ = some (.int .i64 c.time) ∧ w'.cell? (ad.add (b * 9)) = some (.string (bstr y.id)) ∧ w'.cell? ⟨(ad.add (b * 9)).block, (ad.add (b * 9)).off + 1, none⟩ = some (.string (bstr y.pre)) ∧ w'.cell? ⟨(ad.add (b * 9)).block, (ad.add (b * 9)).off + 2, none⟩ = some (.int .i64 y.frm) ∧ w'.cell? ⟨(ad.add (b * 9)).block, (ad.add (b * 9)).off + 3, none⟩ = some (.int .i64 y.to) ∧ w'.cell? ⟨(ad.add (b * 9)).block, (ad.add (b * 9)).off + 4, none⟩ = some (.int .i64 y.st) ∧ w'.cell? ⟨(ad.add (b * 9)).block, (ad.add (b * 9)).off + 5, none⟩ = some (.int .i64 y.en) ∧ w'.cell? ⟨(ad.add (b * 9)).block, (ad.add (b * 9)).off + 6, none⟩ = some (.int .i64 y.made) ∧ w'.cell? ⟨(ad.add (b * 9)).block, (ad.add (b * 9)).off + 7, none⟩ = some (.int .i64 y.kind) ∧ w'.cell? ⟨(ad.add (b * 9)).block, (ad.add (b * 9)).off + 8, none⟩ = some (.string (bstr y.team)))) := Lib.hid (fun w' hg => by
            have h1 := HKX.out.same (same_below hg) HKX.out.lt
            have h2 := HKC4.out.same (same_below hg) HKC4.out.lt
            have hyb := HYB.out
            exact ⟨h1.cell 0, h1.cell 1, h1.cell 2, h1.cell 3, h1.cell 4, h1.cell 5, h1.cell 6, h1.cell 7, h1.cell 8, h2.cell 0, h2.cell 1, (hg.cell (p := (ad.add (b * 9))) hyb).trans HY0.out, (hg.cell (p := ⟨(ad.add (b * 9)).block, (ad.add (b * 9)).off + 1, none⟩) hyb).trans HY1.out, (hg.cell (p := ⟨(ad.add (b * 9)).block, (ad.add (b * 9)).off + 2, none⟩) hyb).trans HY2.out, (hg.cell (p := ⟨(ad.add (b * 9)).block, (ad.add (b * 9)).off + 3, none⟩) hyb).trans HY3.out, (hg.cell (p := ⟨(ad.add (b * 9)).block, (ad.add (b * 9)).off + 4, none⟩) hyb).trans HY4.out, (hg.cell (p := ⟨(ad.add (b * 9)).block, (ad.add (b * 9)).off + 5, none⟩) hyb).trans HY5.out, (hg.cell (p := ⟨(ad.add (b * 9)).block, (ad.add (b * 9)).off + 6, none⟩) hyb).trans HY6.out, (hg.cell (p := ⟨(ad.add (b * 9)).block, (ad.add (b * 9)).off + 7, none⟩) hyb).trans HY7.out, (hg.cell (p := ⟨(ad.add (b * 9)).block, (ad.add (b * 9)).off + 8, none⟩) hyb).trans HY8.out⟩)
          refine wp_region_held_drew (S := fun w' => w'.cell? ⟨xb, 0, none⟩ = some (.string (bstr x.id)) ∧ w'.cell? ⟨xb, 1, none⟩ = some (.string (bstr x.pre)) ∧ w'.cell? ⟨xb, 2, none⟩ = some (.int .i64 x.frm) ∧ w'.cell? ⟨xb, 3, none⟩ = some (.int .i64 x.to) ∧ w'.cell? ⟨xb, 4, none⟩ = some (.int .i64 x.st) ∧ w'.cell? ⟨xb, 5, none⟩ = some (.int .i64 x.en) ∧ w'.cell? ⟨xb, 6, none⟩ = some (.int .i64 x.made) ∧ w'.cell? ⟨xb, 7, none⟩ = some (.int .i64 x.kind) ∧ w'.cell? ⟨xb, 8, none⟩ = some (.string (bstr x.team)) ∧ w'.cell? ⟨cb, 0, none⟩ = some (.string (bstr c.key)) ∧ w'.cell? ⟨cb, 1, none⟩ = some (.int .i64 c.time) ∧ w'.cell? (ad.add (b * 9)) = some (.string (bstr y.id)) ∧ w'.cell? ⟨(ad.add (b * 9)).block, (ad.add (b * 9)).off + 1, none⟩ = some (.string (bstr y.pre)) ∧ w'.cell? ⟨(ad.add (b * 9)).block, (ad.add (b * 9)).off + 2, none⟩ = some (.int .i64 y.frm) ∧ w'.cell? ⟨(ad.add (b * 9)).block, (ad.add (b * 9)).off + 3, none⟩ = some (.int .i64 y.to) ∧ w'.cell? ⟨(ad.add (b * 9)).block, (ad.add (b * 9)).off + 4, none⟩ = some (.int .i64 y.st) ∧ w'.cell? ⟨(ad.add (b * 9)).block, (ad.add (b * 9)).off + 5, none⟩ = some (.int .i64 y.en) ∧ w'.cell? ⟨(ad.add (b * 9)).block, (ad.add (b * 9)).off + 6, none⟩ = some (.int .i64 y.made) ∧ w'.cell? ⟨(ad.add (b * 9)).block, (ad.add (b * 9)).off + 7, none⟩ = some (.int .i64 y.kind) ∧ w'.cell? ⟨(ad.add (b * 9)).block, (ad.add (b * 9)).off + 8, none⟩ = some (.string (bstr y.team))) (by kernel_rfl) (KEEP.out _ (Below.drew (Below.refl _ _))) (fun hHeld => ?_)
          obtain ⟨wq, hwq⟩ : ∃ wq, wq = World.drew wr4 := ⟨_, rfl⟩
          have HG0 : Hid (Below wr4.heap.size wr4 wq) := Lib.hid (by rw [hwq]; exact Below.drew (Below.refl _ _))
          rw [← hwq] at hHeld ⊢
          clear hwq
          refine wpAnyH_take (i := 0) (v := ?_) rfl (by kernel_rfl) (by kernel_rfl) (by kernel_rfl) (fun _ _ _ h => h) (Or.inl ⟨by rfl, ?_⟩) (by assumption) ?_
          rotate_left
          · (intro w hSw; (try dsimp only at hSw); go_simp; try with_reducible rfl)
          try simp only [List.getElem_toArray, List.getElem_cons_succ, List.getElem_cons_zero, Act.put, List.setIfInBounds_toArray, List.set_cons_zero, List.set_cons_succ]
          refine wpAnyH_take (i := 1) (v := ?_) rfl (by kernel_rfl) (by kernel_rfl) (by kernel_rfl) (fun _ _ _ h => h) (Or.inl ⟨by rfl, ?_⟩) (by assumption) ?_
          rotate_left
          · (intro w hSw; (try dsimp only at hSw); go_simp; try with_reducible rfl)
          try simp only [List.getElem_toArray, List.getElem_cons_succ, List.getElem_cons_zero, Act.put, List.setIfInBounds_toArray, List.set_cons_zero, List.set_cons_succ]
          refine wpAnyH_take (i := 2) (v := ?_) rfl (by kernel_rfl) (by kernel_rfl) (by kernel_rfl) (fun _ _ _ h => h) (Or.inl ⟨by rfl, ?_⟩) (by assumption) ?_
          rotate_left
          · (intro w hSw; (try dsimp only at hSw); go_simp; try with_reducible rfl)
          try simp only [List.getElem_toArray, List.getElem_cons_succ, List.getElem_cons_zero, Act.put, List.setIfInBounds_toArray, List.set_cons_zero, List.set_cons_succ]
          refine wpAnyH_ready (rs := [3]) (by kernel_rfl) (by simp) ?_
          refine AllReadyH.cons rfl (fun K hK => ?_) AllReadyH.nil
          rw [if_pos (by rfl)]
          simp only [List.getElem_toArray, List.getElem_cons_succ, List.getElem_cons_zero]
          go_simp
          go_at_call 37
          refine (HCN.out _).mono ?_
          rintro e w5 ⟨rfl, hw⟩
          have HG5 : Hid (Below wr4.heap.size wr4 w5) := Lib.hid (HG0.out.trans (hw.mono HG0.out.size))
          clear hw
          show K _ w5
          refine hK.out _ _ (KEEP.out _ HG5.out) (fun hHeld => ?_)
          clear hK K
          try simp only [List.getElem_toArray, List.getElem_cons_succ, List.getElem_cons_zero, Act.put, List.setIfInBounds_toArray, List.set_cons_zero, List.set_cons_succ]
          refine wpAnyH_take (i := 4) (v := ?_) rfl (by kernel_rfl) (by kernel_rfl) (by kernel_rfl) (fun _ _ _ h => h) (Or.inl ⟨by rfl, ?_⟩) (by assumption) ?_
          rotate_left
          · (intro w hSw; (try dsimp only at hSw); go_simp; try with_reducible rfl)
          try simp only [List.getElem_toArray, List.getElem_cons_succ, List.getElem_cons_zero, Act.put, List.setIfInBounds_toArray, List.set_cons_zero, List.set_cons_succ]
          refine wpAnyH_take (i := 5) (v := ?_) rfl (by kernel_rfl) (by kernel_rfl) (by kernel_rfl) (fun _ _ _ h => h) (Or.inl ⟨by rfl, ?_⟩) (by assumption) ?_
          rotate_left
          · (intro w hSw; (try dsimp only at hSw); go_simp; try with_reducible rfl)
          try simp only [List.getElem_toArray, List.getElem_cons_succ, List.getElem_cons_zero, Act.put, List.setIfInBounds_toArray, List.set_cons_zero, List.set_cons_succ]
          refine wpAnyH_take (i := 6) (v := ?_) rfl (by kernel_rfl) (by kernel_rfl) (by kernel_rfl) (fun _ _ _ h => h) (Or.inl ⟨by rfl, ?_⟩) (by assumption) ?_
          rotate_left
          · (intro w hSw; (try dsimp only at hSw); go_simp; try with_reducible rfl)
          try simp only [List.getElem_toArray, List.getElem_cons_succ, List.getElem_cons_zero, Act.put, List.setIfInBounds_toArray, List.set_cons_zero, List.set_cons_succ]
          refine wpAnyH_take (i := 7) (v := ?_) rfl (by kernel_rfl) (by kernel_rfl) (by kernel_rfl) (fun _ _ _ h => h) (Or.inl ⟨by rfl, ?_⟩) (by assumption) ?_
          rotate_left
          · (intro w hSw; (try dsimp only at hSw); go_simp; try with_reducible rfl)
          try simp only [List.getElem_toArray, List.getElem_cons_succ, List.getElem_cons_zero, Act.put, List.setIfInBounds_toArray, List.set_cons_zero, List.set_cons_succ]
          refine wpAnyH_take (i := 8) (v := ?_) rfl (by kernel_rfl) (by kernel_rfl) (by kernel_rfl) (fun _ _ _ h => h) (Or.inl ⟨by rfl, ?_⟩) (by assumption) ?_
          rotate_left
          · (intro w hSw; (try dsimp only at hSw); go_simp; try with_reducible rfl)
          try simp only [List.getElem_toArray, List.getElem_cons_succ, List.getElem_cons_zero, Act.put, List.setIfInBounds_toArray, List.set_cons_zero, List.set_cons_succ]
          refine wpAnyH_take (i := 9) (v := ?_) rfl (by kernel_rfl) (by kernel_rfl) (by kernel_rfl) (fun _ _ _ h => h) (Or.inl ⟨by rfl, ?_⟩) (by assumption) ?_
          rotate_left
          · (intro w hSw; (try dsimp only at hSw); go_simp; try with_reducible rfl)
          try simp only [List.getElem_toArray, List.getElem_cons_succ, List.getElem_cons_zero, Act.put, List.setIfInBounds_toArray, List.set_cons_zero, List.set_cons_succ]
          refine wpAnyH_take (i := 10) (v := ?_) rfl (by kernel_rfl) (by kernel_rfl) (by kernel_rfl) (fun _ _ _ h => h) (Or.inl ⟨by rfl, ?_⟩) (by assumption) ?_
          rotate_left
          · (intro w hSw; (try dsimp only at hSw); go_simp; try with_reducible rfl)
          try simp only [List.getElem_toArray, List.getElem_cons_succ, List.getElem_cons_zero, Act.put, List.setIfInBounds_toArray, List.set_cons_zero, List.set_cons_succ]
          refine wpAnyH_take (i := 11) (v := ?_) rfl (by kernel_rfl) (by kernel_rfl) (by kernel_rfl) (fun _ _ _ h => h) (Or.inl ⟨by rfl, ?_⟩) (by assumption) ?_
          rotate_left
          · (intro w hSw; (try dsimp only at hSw); go_simp; try with_reducible rfl)
          try simp only [List.getElem_toArray, List.getElem_cons_succ, List.getElem_cons_zero, Act.put, List.setIfInBounds_toArray, List.set_cons_zero, List.set_cons_succ]
          refine wpAnyH_take (i := 12) (v := ?_) rfl (by kernel_rfl) (by kernel_rfl) (by kernel_rfl) (fun _ _ _ h => h) (Or.inl ⟨by rfl, ?_⟩) (by assumption) ?_
          rotate_left
          · (intro w hSw; (try dsimp only at hSw); go_simp; try with_reducible rfl)
          try simp only [List.getElem_toArray, List.getElem_cons_succ, List.getElem_cons_zero, Act.put, List.setIfInBounds_toArray, List.set_cons_zero, List.set_cons_succ]
          refine wpAnyH_ready (rs := [13]) (by kernel_rfl) (by simp) ?_
          refine AllReadyH.cons rfl (fun K hK => ?_) AllReadyH.nil
          rw [if_pos (by rfl)]
          simp only [List.getElem_toArray, List.getElem_cons_succ, List.getElem_cons_zero]
          go_simp
          go_at_call 25
          refine (HNE.out _).mono ?_
          rintro e w6 ⟨rfl, hw⟩
          have HG6 : Hid (Below wr4.heap.size wr4 w6) := Lib.hid (HG5.out.trans (hw.mono HG5.out.size))
          clear hw
          show K _ w6
          refine hK.out _ _ (KEEP.out _ HG6.out) (fun hHeld => ?_)
          clear hK K
          try simp only [List.getElem_toArray, List.getElem_cons_succ, List.getElem_cons_zero, Act.put, List.setIfInBounds_toArray, List.set_cons_zero, List.set_cons_succ]
          refine wpAnyH_take (i := 14) (v := ?_) rfl (by kernel_rfl) (by kernel_rfl) (by kernel_rfl) (fun _ _ _ h => h) (Or.inl ⟨by rfl, ?_⟩) (by assumption) ?_
          rotate_left
          · (intro w hSw; (try dsimp only at hSw); go_simp; try with_reducible rfl)
          try simp only [List.getElem_toArray, List.getElem_cons_succ, List.getElem_cons_zero, Act.put, List.setIfInBounds_toArray, List.set_cons_zero, List.set_cons_succ]
          refine wpAnyH_take (i := 15) (v := ?_) rfl (by kernel_rfl) (by kernel_rfl) (by kernel_rfl) (fun _ _ _ h => h) (Or.inl ⟨by rfl, ?_⟩) (by assumption) ?_
          rotate_left
          · (intro w hSw; (try dsimp only at hSw); go_simp; try with_reducible rfl)
          try simp only [List.getElem_toArray, List.getElem_cons_succ, List.getElem_cons_zero, Act.put, List.setIfInBounds_toArray, List.set_cons_zero, List.set_cons_succ]
          refine wpAnyH_take (i := 16) (v := ?_) rfl (by kernel_rfl) (by kernel_rfl) (by kernel_rfl) (fun _ _ _ h => h) (Or.inl ⟨by rfl, ?_⟩) (by assumption) ?_
          rotate_left
          · (intro w hSw; (try dsimp only at hSw); go_simp; try with_reducible rfl)
          try simp only [List.getElem_toArray, List.getElem_cons_succ, List.getElem_cons_zero, Act.put, List.setIfInBounds_toArray, List.set_cons_zero, List.set_cons_succ]
          refine wpAnyH_done (by kernel_rfl) ?_ _
          clear hHeld KEEP
          have HBZ := Lib.hid (HB4.out.trans (HG6.out.mono HB4.out.size))
          go_wp2_with fail
          go_roundw
          case rel => first | exact ⟨k + 1, by omega, by go_num, by rw [HE.out], HBZ⟩ | (repeat (apply Exists.intro); (refine And.intro ?_ ?_; rotate_left; (repeat' (first | exact rfl | apply And.intro)); exact ⟨k + 1, by omega, by go_num, by rw [HE.out], HBZ⟩))
          case measure => simp [intOf]; omega
    · obtain rfl : k = l.length := by omega
      go_wp2_with fail
      go_ret
      exact ⟨rfl, HBW.out⟩
set_option maxRecDepth 100000 in
set_option maxHeartbeats 8000000 in
theorem hRightOf_any (v : Value) (l : List Rgt) (c : Cap) (at_ : Int) (w : World) (h0 : (Rp.sl rgtRp).ok w (· < w.heap.size) [v] l) (hm : l.length ≤ 1000) (hck : c.key.length ≤ 9223372036854775807) (hrg : ∀ k, (h : k < l.length) → rgF l[k] = 0) :
    Calls Tryz.prog 32 #[v, .agg #[.string (bstr c.key), .int .i64 c.time], .int .i64 at_] w fun e w' => e = .returned (.int .i64 (rightIx l c at_)) ∧ Below w.heap.size w w' := by
  obtain ⟨A, cc, rfl, hl, hc, _⟩ := Rp.sl_open h0
  unfold maxLen at hc
  have hal0 := (Below.refl w.heap.size w).alloc (Nat.le_refl _) (.cells #[.string (bstr c.key), .int .i64 c.time] 25)
  have HB0 := Lib.hid hal0
  have HKC := Lib.hid (Blk.new w 25 (capCells c))
  have H0 := Lib.hid h0
  clear h0 hal0
  go_enter Tryz.func32, Tryz.ntmps32
  go_wp2_with fail
  generalize hw1 : w.alloc (.cells #[.string (bstr c.key), .int .i64 c.time] 25) = w1 at *
  have HKC1 : Hid (Blk w1 w.heap.size 25 (capCells c)) := Lib.hid (by rw [← hw1]; exact HKC.out)
  clear HKC hw1
  obtain ⟨cb, hcb⟩ : ∃ cb, cb = w.heap.size := ⟨_, rfl⟩
  have HCBE := Lib.hid hcb
  rw [← hcb] at HKC1 ⊢
  clear hcb
  go_loopw [7, 12] (fun vb vi wr => ∃ k : Nat, k ≤ l.length ∧ vi = .int .i64 k ∧ vb = .int .i64 (rOf l c at_ k) ∧ Hid (Below w1.heap.size w1 wr)) (fun _ vi _ => l.length - (intOf vi).toNat)
  case atStart => exact ⟨0, by omega, rfl, rfl, Below.refl _ _⟩
  case round =>
    obtain ⟨k, hk, rfl, hvb, HB⟩ := hrel
    subst hvb
    have HBW : Hid (Below w.heap.size w wr) := Lib.hid (HB0.out.trans (HB.out.mono HB0.out.size))
    by_cases hlt : k < l.length
    · obtain ⟨ad, c', e1, hadb, c0, c1, c2, c3, c4, c5, c6, c7, c8, hz⟩ := rgt_at (Rp.below _ H0.out HBW.out) hlt
      injection e1 with e1 _ e2
      subst e1 e2
      obtain ⟨hz0, hz1, hw2, hw3, hw4, hw5, hw6, hw7, hz8⟩ := hz
      unfold maxLen at hz1
      have hxp : l[k].pre.length ≤ 9223372036854775807 := by omega
      have HR : Hid (rOf l c at_ (k + 1) = if concB l[k] c at_ = true ∧ (rOf l c at_ k < 0 ∨ near l[k] (l.getD (rOf l c at_ k).toNat default) < 0) then (k : Int) else rOf l c at_ k) := Lib.hid (by rw [rOf, getD_at _ _ hlt])
      have hrr := rOf_range l c at_ k
      have HMX := Lib.hid (rg_made (hrg k hlt))
      generalize hx : l[k] = x at *
      clear hx
      have hal := (Below.refl wr.heap.size wr).alloc (Nat.le_refl _) (.cells #[.string (bstr x.id), .string (bstr x.pre), .int .i64 x.frm, .int .i64 x.to, .int .i64 x.st, .int .i64 x.en, .int .i64 x.made, .int .i64 x.kind, .string (bstr x.team)] 38)
      have HB4 := Lib.hid (HB.out.trans (hal.mono HB.out.size))
      have HBW4 := Lib.hid (HBW.out.trans (hal.mono HBW.out.size))
      have HKX := Lib.hid (Blk.new wr 38 [.string (bstr x.id), .string (bstr x.pre), .int .i64 x.frm, .int .i64 x.to, .int .i64 x.st, .int .i64 x.en, .int .i64 x.made, .int .i64 x.kind, .string (bstr x.team)])
      have HKC4 := Lib.hid ((HKC1.out.same (same_below HB.out) HKC1.out.lt).same (same_below hal) (Nat.lt_of_lt_of_le HKC1.out.lt HB.out.size))
      clear hal
      go_wp2_with fail
      clear c0 c1 c2 c3 c4 c5 c6 c7 c8
      obtain ⟨xb, hxb⟩ : ∃ xb, xb = wr.heap.size := ⟨_, rfl⟩
      rw [← hxb] at HKX ⊢
      clear hxb
      generalize wr.alloc (.cells #[.string (bstr x.id), .string (bstr x.pre), .int .i64 x.frm, .int .i64 x.to, .int .i64 x.st, .int .i64 x.en, .int .i64 x.made, .int .i64 x.kind, .string (bstr x.team)] 38) = wr4 at *
      generalize rOf l c at_ k = R at *
      unfold capCells at HKC4
      cases hcb : concB x c at_ with
      | false =>
        have HE : Hid (rOf l c at_ (k + 1) = R) := Lib.hid (HR.out.trans (if_neg (fun e => by rw [hcb] at e; exact absurd e.1 (by decide))))
        have HCN : Hid (∀ W, Calls Tryz.prog 59 #[.agg #[.string (bstr x.id), .string (bstr x.pre), .int .i64 x.frm, .int .i64 x.to, .int .i64 x.st, .int .i64 x.en, .int .i64 x.made, .int .i64 x.kind, .string (bstr x.team)], .agg #[.string (bstr c.key), .int .i64 c.time], .int .i64 at_] W fun e w' => e = .returned (.bool false) ∧ Below W.heap.size W w') := Lib.hid (fun W => by have := hconcerns_any x c at_ W hck; rw [hcb] at this; exact this)
        clear hcb HR
        have KEEP : Hid (∀ w', Below wr4.heap.size wr4 w' → (w'.cell? ⟨xb, 0, none⟩ = some (.string (bstr x.id)) ∧ w'.cell? ⟨xb, 1, none⟩ = some (.string (bstr x.pre)) ∧ w'.cell? ⟨xb, 2, none⟩ = some (.int .i64 x.frm) ∧ w'.cell? ⟨xb, 3, none⟩ = some (.int .i64 x.to) ∧ w'.cell? ⟨xb, 4, none⟩ = some (.int .i64 x.st) ∧ w'.cell? ⟨xb, 5, none⟩ = some (.int .i64 x.en) ∧ w'.cell? ⟨xb, 6, none⟩ = some (.int .i64 x.made) ∧ w'.cell? ⟨xb, 7, none⟩ = some (.int .i64 x.kind) ∧ w'.cell? ⟨xb, 8, none⟩ = some (.string (bstr x.team)) ∧ w'.cell? ⟨cb, 0, none⟩ = some (.string (bstr c.key)) ∧ w'.cell? ⟨cb, 1, none⟩ = some (.int .i64 c.time))) := Lib.hid (fun w' hg => by
          have h1 := HKX.out.same (same_below hg) HKX.out.lt
          have h2 := HKC4.out.same (same_below hg) HKC4.out.lt
          exact ⟨h1.cell 0, h1.cell 1, h1.cell 2, h1.cell 3, h1.cell 4, h1.cell 5, h1.cell 6, h1.cell 7, h1.cell 8, h2.cell 0, h2.cell 1⟩)
        refine wp_region_held_drew (S := fun w' => w'.cell? ⟨xb, 0, none⟩ = some (.string (bstr x.id)) ∧ w'.cell? ⟨xb, 1, none⟩ = some (.string (bstr x.pre)) ∧ w'.cell? ⟨xb, 2, none⟩ = some (.int .i64 x.frm) ∧ w'.cell? ⟨xb, 3, none⟩ = some (.int .i64 x.to) ∧ w'.cell? ⟨xb, 4, none⟩ = some (.int .i64 x.st) ∧ w'.cell? ⟨xb, 5, none⟩ = some (.int .i64 x.en) ∧ w'.cell? ⟨xb, 6, none⟩ = some (.int .i64 x.made) ∧ w'.cell? ⟨xb, 7, none⟩ = some (.int .i64 x.kind) ∧ w'.cell? ⟨xb, 8, none⟩ = some (.string (bstr x.team)) ∧ w'.cell? ⟨cb, 0, none⟩ = some (.string (bstr c.key)) ∧ w'.cell? ⟨cb, 1, none⟩ = some (.int .i64 c.time)) (by kernel_rfl) (KEEP.out _ (Below.drew (Below.refl _ _))) (fun hHeld => ?_)
        obtain ⟨wq, hwq⟩ : ∃ wq, wq = World.drew wr4 := ⟨_, rfl⟩
        have HG0 : Hid (Below wr4.heap.size wr4 wq) := Lib.hid (by rw [hwq]; exact Below.drew (Below.refl _ _))
        rw [← hwq] at hHeld ⊢
        clear hwq
        refine wpAnyH_take (i := 0) (v := ?_) rfl (by kernel_rfl) (by kernel_rfl) (by kernel_rfl) (fun _ _ _ h => h) (Or.inl ⟨by rfl, ?_⟩) (by assumption) ?_
        rotate_left
        · (intro w hSw; (try dsimp only at hSw); go_simp; try with_reducible rfl)
        try simp only [List.getElem_toArray, List.getElem_cons_succ, List.getElem_cons_zero, Act.put, List.setIfInBounds_toArray, List.set_cons_zero, List.set_cons_succ]
        refine wpAnyH_take (i := 1) (v := ?_) rfl (by kernel_rfl) (by kernel_rfl) (by kernel_rfl) (fun _ _ _ h => h) (Or.inl ⟨by rfl, ?_⟩) (by assumption) ?_
        rotate_left
        · (intro w hSw; (try dsimp only at hSw); go_simp; try with_reducible rfl)
        try simp only [List.getElem_toArray, List.getElem_cons_succ, List.getElem_cons_zero, Act.put, List.setIfInBounds_toArray, List.set_cons_zero, List.set_cons_succ]
        refine wpAnyH_take (i := 2) (v := ?_) rfl (by kernel_rfl) (by kernel_rfl) (by kernel_rfl) (fun _ _ _ h => h) (Or.inl ⟨by rfl, ?_⟩) (by assumption) ?_
        rotate_left
        · (intro w hSw; (try dsimp only at hSw); go_simp; try with_reducible rfl)
        try simp only [List.getElem_toArray, List.getElem_cons_succ, List.getElem_cons_zero, Act.put, List.setIfInBounds_toArray, List.set_cons_zero, List.set_cons_succ]
        refine wpAnyH_ready (rs := [3]) (by kernel_rfl) (by simp) ?_
        refine AllReadyH.cons rfl (fun K hK => ?_) AllReadyH.nil
        rw [if_pos (by rfl)]
        simp only [List.getElem_toArray, List.getElem_cons_succ, List.getElem_cons_zero]
        go_simp
        go_at_call 59
        refine (HCN.out _).mono ?_
        rintro e w5 ⟨rfl, hw⟩
        have HG5 : Hid (Below wr4.heap.size wr4 w5) := Lib.hid (HG0.out.trans (hw.mono HG0.out.size))
        clear hw
        show K _ w5
        refine hK.out _ _ (KEEP.out _ HG5.out) (fun hHeld => ?_)
        clear hK K
        try simp only [List.getElem_toArray, List.getElem_cons_succ, List.getElem_cons_zero, Act.put, List.setIfInBounds_toArray, List.set_cons_zero, List.set_cons_succ]
        refine wpAnyH_take (i := 4) (v := ?_) rfl (by kernel_rfl) (by kernel_rfl) (by kernel_rfl) (fun _ _ _ h => h) (Or.inl ⟨by rfl, ?_⟩) (by assumption) ?_
        rotate_left
        · (intro w hSw; (try dsimp only at hSw); go_simp; try with_reducible rfl)
        try simp only [List.getElem_toArray, List.getElem_cons_succ, List.getElem_cons_zero, Act.put, List.setIfInBounds_toArray, List.set_cons_zero, List.set_cons_succ]
        refine wpAnyH_take (i := 5) (v := undef) rfl (by kernel_rfl) (by kernel_rfl) (by kernel_rfl) (fun _ _ _ h => h) (Or.inr ⟨by rfl, rfl⟩) (by assumption) ?_
        try simp only [List.getElem_toArray, List.getElem_cons_succ, List.getElem_cons_zero, Act.put, List.setIfInBounds_toArray, List.set_cons_zero, List.set_cons_succ]
        refine wpAnyH_take (i := 6) (v := undef) rfl (by kernel_rfl) (by kernel_rfl) (by kernel_rfl) (fun _ _ _ h => h) (Or.inr ⟨by rfl, rfl⟩) (by assumption) ?_
        try simp only [List.getElem_toArray, List.getElem_cons_succ, List.getElem_cons_zero, Act.put, List.setIfInBounds_toArray, List.set_cons_zero, List.set_cons_succ]
        refine wpAnyH_take (i := 7) (v := undef) rfl (by kernel_rfl) (by kernel_rfl) (by kernel_rfl) (fun _ _ _ h => h) (Or.inr ⟨by rfl, rfl⟩) (by assumption) ?_
        try simp only [List.getElem_toArray, List.getElem_cons_succ, List.getElem_cons_zero, Act.put, List.setIfInBounds_toArray, List.set_cons_zero, List.set_cons_succ]
        refine wpAnyH_take (i := 8) (v := undef) rfl (by kernel_rfl) (by kernel_rfl) (by kernel_rfl) (fun _ _ _ h => h) (Or.inr ⟨by rfl, rfl⟩) (by assumption) ?_
        try simp only [List.getElem_toArray, List.getElem_cons_succ, List.getElem_cons_zero, Act.put, List.setIfInBounds_toArray, List.set_cons_zero, List.set_cons_succ]
        refine wpAnyH_take (i := 9) (v := undef) rfl (by kernel_rfl) (by kernel_rfl) (by kernel_rfl) (fun _ _ _ h => h) (Or.inr ⟨by rfl, rfl⟩) (by assumption) ?_
        try simp only [List.getElem_toArray, List.getElem_cons_succ, List.getElem_cons_zero, Act.put, List.setIfInBounds_toArray, List.set_cons_zero, List.set_cons_succ]
        refine wpAnyH_take (i := 10) (v := undef) rfl (by kernel_rfl) (by kernel_rfl) (by kernel_rfl) (fun _ _ _ h => h) (Or.inr ⟨by rfl, rfl⟩) (by assumption) ?_
        try simp only [List.getElem_toArray, List.getElem_cons_succ, List.getElem_cons_zero, Act.put, List.setIfInBounds_toArray, List.set_cons_zero, List.set_cons_succ]
        refine wpAnyH_take (i := 11) (v := undef) rfl (by kernel_rfl) (by kernel_rfl) (by kernel_rfl) (fun _ _ _ h => h) (Or.inr ⟨by rfl, rfl⟩) (by assumption) ?_
        try simp only [List.getElem_toArray, List.getElem_cons_succ, List.getElem_cons_zero, Act.put, List.setIfInBounds_toArray, List.set_cons_zero, List.set_cons_succ]
        refine wpAnyH_take (i := 12) (v := undef) rfl (by kernel_rfl) (by kernel_rfl) (by kernel_rfl) (fun _ _ _ h => h) (Or.inr ⟨by rfl, rfl⟩) (by assumption) ?_
        try simp only [List.getElem_toArray, List.getElem_cons_succ, List.getElem_cons_zero, Act.put, List.setIfInBounds_toArray, List.set_cons_zero, List.set_cons_succ]
        refine wpAnyH_take (i := 13) (v := undef) rfl (by kernel_rfl) (by kernel_rfl) (by kernel_rfl) (fun _ _ _ h => h) (Or.inr ⟨by rfl, rfl⟩) (by assumption) ?_
        try simp only [List.getElem_toArray, List.getElem_cons_succ, List.getElem_cons_zero, Act.put, List.setIfInBounds_toArray, List.set_cons_zero, List.set_cons_succ]
        refine wpAnyH_take (i := 14) (v := undef) rfl (by kernel_rfl) (by kernel_rfl) (by kernel_rfl) (fun _ _ _ h => h) (Or.inr ⟨by rfl, rfl⟩) (by assumption) ?_
        try simp only [List.getElem_toArray, List.getElem_cons_succ, List.getElem_cons_zero, Act.put, List.setIfInBounds_toArray, List.set_cons_zero, List.set_cons_succ]
        refine wpAnyH_take (i := 15) (v := undef) rfl (by kernel_rfl) (by kernel_rfl) (by kernel_rfl) (fun _ _ _ h => h) (Or.inr ⟨by rfl, rfl⟩) (by assumption) ?_
        try simp only [List.getElem_toArray, List.getElem_cons_succ, List.getElem_cons_zero, Act.put, List.setIfInBounds_toArray, List.set_cons_zero, List.set_cons_succ]
        refine wpAnyH_take (i := 16) (v := ?_) rfl (by kernel_rfl) (by kernel_rfl) (by kernel_rfl) (fun _ _ _ h => h) (Or.inl ⟨by rfl, ?_⟩) (by assumption) ?_
        rotate_left
        · (intro w hSw; (try dsimp only at hSw); go_simp; try with_reducible rfl)
        try simp only [List.getElem_toArray, List.getElem_cons_succ, List.getElem_cons_zero, Act.put, List.setIfInBounds_toArray, List.set_cons_zero, List.set_cons_succ]
        refine wpAnyH_done (by kernel_rfl) ?_ _
        clear hHeld KEEP
        have HBZ := Lib.hid (HB4.out.trans (HG5.out.mono HB4.out.size))
        go_wp2_with fail
        go_roundw
        case rel => first | exact ⟨k + 1, by omega, by go_num, by rw [HE.out], HBZ⟩ | (repeat (apply Exists.intro); (refine And.intro ?_ ?_; rotate_left; (repeat' (first | exact rfl | apply And.intro)); exact ⟨k + 1, by omega, by go_num, by rw [HE.out], HBZ⟩))
        case measure => simp [intOf]; omega
      | true =>
      have HCN : Hid (∀ W, Calls Tryz.prog 59 #[.agg #[.string (bstr x.id), .string (bstr x.pre), .int .i64 x.frm, .int .i64 x.to, .int .i64 x.st, .int .i64 x.en, .int .i64 x.made, .int .i64 x.kind, .string (bstr x.team)], .agg #[.string (bstr c.key), .int .i64 c.time], .int .i64 at_] W fun e w' => e = .returned (.bool true) ∧ Below W.heap.size W w') := Lib.hid (fun W => by have := hconcerns_any x c at_ W hck; rw [hcb] at this; exact this)
      by_cases hR : R < 0
      · have HE : Hid (rOf l c at_ (k + 1) = (k : Int)) := Lib.hid (HR.out.trans (if_pos ⟨hcb, .inl hR⟩))
        have n1 : decide (R < 0) = true := decide_eq_true hR
        clear hcb HR
        have KEEP : Hid (∀ w', Below wr4.heap.size wr4 w' → (w'.cell? ⟨xb, 0, none⟩ = some (.string (bstr x.id)) ∧ w'.cell? ⟨xb, 1, none⟩ = some (.string (bstr x.pre)) ∧ w'.cell? ⟨xb, 2, none⟩ = some (.int .i64 x.frm) ∧ w'.cell? ⟨xb, 3, none⟩ = some (.int .i64 x.to) ∧ w'.cell? ⟨xb, 4, none⟩ = some (.int .i64 x.st) ∧ w'.cell? ⟨xb, 5, none⟩ = some (.int .i64 x.en) ∧ w'.cell? ⟨xb, 6, none⟩ = some (.int .i64 x.made) ∧ w'.cell? ⟨xb, 7, none⟩ = some (.int .i64 x.kind) ∧ w'.cell? ⟨xb, 8, none⟩ = some (.string (bstr x.team)) ∧ w'.cell? ⟨cb, 0, none⟩ = some (.string (bstr c.key)) ∧ w'.cell? ⟨cb, 1, none⟩ = some (.int .i64 c.time))) := Lib.hid (fun w' hg => by
          have h1 := HKX.out.same (same_below hg) HKX.out.lt
          have h2 := HKC4.out.same (same_below hg) HKC4.out.lt
          exact ⟨h1.cell 0, h1.cell 1, h1.cell 2, h1.cell 3, h1.cell 4, h1.cell 5, h1.cell 6, h1.cell 7, h1.cell 8, h2.cell 0, h2.cell 1⟩)
        refine wp_region_held_drew (S := fun w' => w'.cell? ⟨xb, 0, none⟩ = some (.string (bstr x.id)) ∧ w'.cell? ⟨xb, 1, none⟩ = some (.string (bstr x.pre)) ∧ w'.cell? ⟨xb, 2, none⟩ = some (.int .i64 x.frm) ∧ w'.cell? ⟨xb, 3, none⟩ = some (.int .i64 x.to) ∧ w'.cell? ⟨xb, 4, none⟩ = some (.int .i64 x.st) ∧ w'.cell? ⟨xb, 5, none⟩ = some (.int .i64 x.en) ∧ w'.cell? ⟨xb, 6, none⟩ = some (.int .i64 x.made) ∧ w'.cell? ⟨xb, 7, none⟩ = some (.int .i64 x.kind) ∧ w'.cell? ⟨xb, 8, none⟩ = some (.string (bstr x.team)) ∧ w'.cell? ⟨cb, 0, none⟩ = some (.string (bstr c.key)) ∧ w'.cell? ⟨cb, 1, none⟩ = some (.int .i64 c.time)) (by kernel_rfl) (KEEP.out _ (Below.drew (Below.refl _ _))) (fun hHeld => ?_)
        obtain ⟨wq, hwq⟩ : ∃ wq, wq = World.drew wr4 := ⟨_, rfl⟩
        have HG0 : Hid (Below wr4.heap.size wr4 wq) := Lib.hid (by rw [hwq]; exact Below.drew (Below.refl _ _))
        rw [← hwq] at hHeld ⊢
        clear hwq
        refine wpAnyH_take (i := 0) (v := ?_) rfl (by kernel_rfl) (by kernel_rfl) (by kernel_rfl) (fun _ _ _ h => h) (Or.inl ⟨by rfl, ?_⟩) (by assumption) ?_
        rotate_left
        · (intro w hSw; (try dsimp only at hSw); go_simp; try with_reducible rfl)
        try simp only [List.getElem_toArray, List.getElem_cons_succ, List.getElem_cons_zero, Act.put, List.setIfInBounds_toArray, List.set_cons_zero, List.set_cons_succ]
        refine wpAnyH_take (i := 1) (v := ?_) rfl (by kernel_rfl) (by kernel_rfl) (by kernel_rfl) (fun _ _ _ h => h) (Or.inl ⟨by rfl, ?_⟩) (by assumption) ?_
        rotate_left
        · (intro w hSw; (try dsimp only at hSw); go_simp; try with_reducible rfl)
        try simp only [List.getElem_toArray, List.getElem_cons_succ, List.getElem_cons_zero, Act.put, List.setIfInBounds_toArray, List.set_cons_zero, List.set_cons_succ]
        refine wpAnyH_take (i := 2) (v := ?_) rfl (by kernel_rfl) (by kernel_rfl) (by kernel_rfl) (fun _ _ _ h => h) (Or.inl ⟨by rfl, ?_⟩) (by assumption) ?_
        rotate_left
        · (intro w hSw; (try dsimp only at hSw); go_simp; try with_reducible rfl)
        try simp only [List.getElem_toArray, List.getElem_cons_succ, List.getElem_cons_zero, Act.put, List.setIfInBounds_toArray, List.set_cons_zero, List.set_cons_succ]
        refine wpAnyH_ready (rs := [3]) (by kernel_rfl) (by simp) ?_
        refine AllReadyH.cons rfl (fun K hK => ?_) AllReadyH.nil
        rw [if_pos (by rfl)]
        simp only [List.getElem_toArray, List.getElem_cons_succ, List.getElem_cons_zero]
        go_simp
        go_at_call 59
        refine (HCN.out _).mono ?_
        rintro e w5 ⟨rfl, hw⟩
        have HG5 : Hid (Below wr4.heap.size wr4 w5) := Lib.hid (HG0.out.trans (hw.mono HG0.out.size))
        clear hw
        show K _ w5
        refine hK.out _ _ (KEEP.out _ HG5.out) (fun hHeld => ?_)
        clear hK K
        try simp only [List.getElem_toArray, List.getElem_cons_succ, List.getElem_cons_zero, Act.put, List.setIfInBounds_toArray, List.set_cons_zero, List.set_cons_succ]
        refine wpAnyH_take (i := 4) (v := ?_) rfl (by kernel_rfl) (by kernel_rfl) (by kernel_rfl) (fun _ _ _ h => h) (Or.inl ⟨by rfl, ?_⟩) (by assumption) ?_
        rotate_left
        · (intro w hSw; (try dsimp only at hSw); go_simp; try with_reducible rfl)
        try simp only [List.getElem_toArray, List.getElem_cons_succ, List.getElem_cons_zero, Act.put, List.setIfInBounds_toArray, List.set_cons_zero, List.set_cons_succ]
        refine wpAnyH_take (i := 5) (v := ?_) rfl (by kernel_rfl) (by kernel_rfl) (by kernel_rfl) (fun _ _ _ h => h) (Or.inl ⟨by rfl, ?_⟩) (by assumption) ?_
        rotate_left
        · (intro w hSw; (try dsimp only at hSw); go_simp; try with_reducible rfl)
        try simp only [List.getElem_toArray, List.getElem_cons_succ, List.getElem_cons_zero, Act.put, List.setIfInBounds_toArray, List.set_cons_zero, List.set_cons_succ]
        refine wpAnyH_take (i := 6) (v := ?_) rfl (by kernel_rfl) (by kernel_rfl) (by kernel_rfl) (fun _ _ _ h => h) (Or.inl ⟨by rfl, ?_⟩) (by assumption) ?_
        rotate_left
        · (intro w hSw; (try dsimp only at hSw); go_simp; try with_reducible rfl)
        try simp only [List.getElem_toArray, List.getElem_cons_succ, List.getElem_cons_zero, Act.put, List.setIfInBounds_toArray, List.set_cons_zero, List.set_cons_succ]
        refine wpAnyH_take (i := 7) (v := ?_) rfl (by kernel_rfl) (by kernel_rfl) (by kernel_rfl) (fun _ _ _ h => h) (Or.inl ⟨by rfl, ?_⟩) (by assumption) ?_
        rotate_left
        · (intro w hSw; (try dsimp only at hSw); go_simp; try with_reducible rfl)
        try simp only [List.getElem_toArray, List.getElem_cons_succ, List.getElem_cons_zero, Act.put, List.setIfInBounds_toArray, List.set_cons_zero, List.set_cons_succ]
        refine wpAnyH_take (i := 8) (v := undef) rfl (by kernel_rfl) (by kernel_rfl) (by kernel_rfl) (fun _ _ _ h => h) (Or.inr ⟨by rfl, rfl⟩) (by assumption) ?_
        try simp only [List.getElem_toArray, List.getElem_cons_succ, List.getElem_cons_zero, Act.put, List.setIfInBounds_toArray, List.set_cons_zero, List.set_cons_succ]
        refine wpAnyH_take (i := 9) (v := undef) rfl (by kernel_rfl) (by kernel_rfl) (by kernel_rfl) (fun _ _ _ h => h) (Or.inr ⟨by rfl, rfl⟩) (by assumption) ?_
        try simp only [List.getElem_toArray, List.getElem_cons_succ, List.getElem_cons_zero, Act.put, List.setIfInBounds_toArray, List.set_cons_zero, List.set_cons_succ]
        refine wpAnyH_take (i := 10) (v := undef) rfl (by kernel_rfl) (by kernel_rfl) (by kernel_rfl) (fun _ _ _ h => h) (Or.inr ⟨by rfl, rfl⟩) (by assumption) ?_
        try simp only [List.getElem_toArray, List.getElem_cons_succ, List.getElem_cons_zero, Act.put, List.setIfInBounds_toArray, List.set_cons_zero, List.set_cons_succ]
        refine wpAnyH_take (i := 11) (v := undef) rfl (by kernel_rfl) (by kernel_rfl) (by kernel_rfl) (fun _ _ _ h => h) (Or.inr ⟨by rfl, rfl⟩) (by assumption) ?_
        try simp only [List.getElem_toArray, List.getElem_cons_succ, List.getElem_cons_zero, Act.put, List.setIfInBounds_toArray, List.set_cons_zero, List.set_cons_succ]
        refine wpAnyH_take (i := 12) (v := undef) rfl (by kernel_rfl) (by kernel_rfl) (by kernel_rfl) (fun _ _ _ h => h) (Or.inr ⟨by rfl, rfl⟩) (by assumption) ?_
        try simp only [List.getElem_toArray, List.getElem_cons_succ, List.getElem_cons_zero, Act.put, List.setIfInBounds_toArray, List.set_cons_zero, List.set_cons_succ]
        refine wpAnyH_take (i := 13) (v := undef) rfl (by kernel_rfl) (by kernel_rfl) (by kernel_rfl) (fun _ _ _ h => h) (Or.inr ⟨by rfl, rfl⟩) (by assumption) ?_
        try simp only [List.getElem_toArray, List.getElem_cons_succ, List.getElem_cons_zero, Act.put, List.setIfInBounds_toArray, List.set_cons_zero, List.set_cons_succ]
        refine wpAnyH_take (i := 14) (v := undef) rfl (by kernel_rfl) (by kernel_rfl) (by kernel_rfl) (fun _ _ _ h => h) (Or.inr ⟨by rfl, rfl⟩) (by assumption) ?_
        try simp only [List.getElem_toArray, List.getElem_cons_succ, List.getElem_cons_zero, Act.put, List.setIfInBounds_toArray, List.set_cons_zero, List.set_cons_succ]
        refine wpAnyH_take (i := 15) (v := ?_) rfl (by kernel_rfl) (by kernel_rfl) (by kernel_rfl) (fun _ _ _ h => h) (Or.inl ⟨by rfl, ?_⟩) (by assumption) ?_
        rotate_left
        · (intro w hSw; (try dsimp only at hSw); go_simp; try with_reducible rfl)
        try simp only [List.getElem_toArray, List.getElem_cons_succ, List.getElem_cons_zero, Act.put, List.setIfInBounds_toArray, List.set_cons_zero, List.set_cons_succ]
        refine wpAnyH_take (i := 16) (v := ?_) rfl (by kernel_rfl) (by kernel_rfl) (by kernel_rfl) (fun _ _ _ h => h) (Or.inl ⟨by rfl, ?_⟩) (by assumption) ?_
        rotate_left
        · (intro w hSw; (try dsimp only at hSw); go_simp; try with_reducible rfl)
        try simp only [List.getElem_toArray, List.getElem_cons_succ, List.getElem_cons_zero, Act.put, List.setIfInBounds_toArray, List.set_cons_zero, List.set_cons_succ]
        refine wpAnyH_done (by kernel_rfl) ?_ _
        clear hHeld KEEP
        have HBZ := Lib.hid (HB4.out.trans (HG5.out.mono HB4.out.size))
        go_wp2_with fail
        go_roundw
        case rel => first | exact ⟨k + 1, by omega, by go_num, by rw [HE.out], HBZ⟩ | (repeat (apply Exists.intro); (refine And.intro ?_ ?_; rotate_left; (repeat' (first | exact rfl | apply And.intro)); exact ⟨k + 1, by omega, by go_num, by rw [HE.out], HBZ⟩))
        case measure => simp [intOf]; omega
      · obtain ⟨b, rfl⟩ : ∃ b : Nat, R = (b : Int) := ⟨R.toNat, (Int.toNat_of_nonneg (by omega)).symm⟩
        have hbl : b < l.length := by omega
        rw [Int.toNat_natCast, getD_at _ _ hbl] at HR
        obtain ⟨ad2, c2', e1, hadb2, y0, y1, y2, y3, y4, y5, y6, y7, y8, hy⟩ := rgt_at (Rp.below _ H0.out HBW4.out) hbl
        cases e1
        have HYB : Hid ((ad.add (b * 9)).block < wr4.heap.size) := Lib.hid (by rw [add_block]; exact Nat.lt_of_lt_of_le hadb2 HBW4.out.size)
        obtain ⟨_, hyp, _⟩ := hy
        unfold maxLen at hyp
        have hyp : l[b].pre.length ≤ 9223372036854775807 := by omega
        have HMY := Lib.hid (rg_made (hrg b hbl))
        generalize l[b] = y at *
        have HY0 := Lib.hid y0
        have HY1 := Lib.hid y1
        have HY2 := Lib.hid y2
        have HY3 := Lib.hid y3
        have HY4 := Lib.hid y4
        have HY5 := Lib.hid y5
        have HY6 := Lib.hid y6
        have HY7 := Lib.hid y7
        have HY8 := Lib.hid y8
        clear y0 y1 y2 y3 y4 y5 y6 y7 y8 hadb2
        have n1 : decide ((b : Int) < 0) = false := decide_eq_false (by omega)
        have n1b : ¬ (b : Int) < 0 := by omega
        have hb0 : (0 : Int) ≤ (b : Int) := by omega
        have hbI : (b : Int) < (l.length : Int) := by omega
        have HNE : Hid (∀ W, Calls Tryz.prog 60 #[.agg #[.string (bstr x.id), .string (bstr x.pre), .int .i64 x.frm, .int .i64 x.to, .int .i64 x.st, .int .i64 x.en, .int .i64 x.made, .int .i64 x.kind, .string (bstr x.team)], .agg #[.string (bstr y.id), .string (bstr y.pre), .int .i64 y.frm, .int .i64 y.to, .int .i64 y.st, .int .i64 y.en, .int .i64 y.made, .int .i64 y.kind, .string (bstr y.team)]] W fun e w' => e = .returned (.int .i64 (near x y)) ∧ Below W.heap.size W w') := Lib.hid (fun W => hnear_any x y W HMX.out HMY.out hxp hyp)
        generalize hnr : near x y = nr at *
        by_cases hn : nr < 0
        · have HE : Hid (rOf l c at_ (k + 1) = (k : Int)) := Lib.hid (HR.out.trans (if_pos ⟨hcb, .inr hn⟩))
          have n2 : decide (nr < 0) = true := decide_eq_true hn
          clear hcb HR
          have KEEP : Hid (∀ w', Below wr4.heap.size wr4 w' → (w'.cell? ⟨xb, 0, none⟩ = some (.string (bstr x.id)) ∧ w'.cell? ⟨xb, 1, none⟩ = some (.string (bstr x.pre)) ∧ w'.cell? ⟨xb, 2, none⟩ = some (.int .i64 x.frm) ∧ w'.cell? ⟨xb, 3, none⟩ = some (.int .i64 x.to) ∧ w'.cell? ⟨xb, 4, none⟩ = some (.int .i64 x.st) ∧ w'.cell? ⟨xb, 5, none⟩ = some (.int .i64 x.en) ∧ w'.cell? ⟨xb, 6, none⟩ = some (.int .i64 x.made) ∧ w'.cell? ⟨xb, 7, none⟩ = some (.int .i64 x.kind) ∧ w'.cell? ⟨xb, 8, none⟩ = some (.string (bstr x.team)) ∧ w'.cell? ⟨cb, 0, none⟩ = some (.string (bstr c.key)) ∧ w'.cell? ⟨cb, 1, none⟩ = some (.int .i64 c.time) ∧ w'.cell? (ad.add (b * 9)) = some (.string (bstr y.id)) ∧ w'.cell? ⟨(ad.add (b * 9)).block, (ad.add (b * 9)).off + 1, none⟩ = some (.string (bstr y.pre)) ∧ w'.cell? ⟨(ad.add (b * 9)).block, (ad.add (b * 9)).off + 2, none⟩ = some (.int .i64 y.frm) ∧ w'.cell? ⟨(ad.add (b * 9)).block, (ad.add (b * 9)).off + 3, none⟩ = some (.int .i64 y.to) ∧ w'.cell? ⟨(ad.add (b * 9)).block, (ad.add (b * 9)).off + 4, none⟩ = some (.int .i64 y.st) ∧ w'.cell? ⟨(ad.add (b * 9)).block, (ad.add (b * 9)).off + 5, none⟩ = some (.int .i64 y.en) ∧ w'.cell? ⟨(ad.add (b * 9)).block, (ad.add (b * 9)).off + 6, none⟩ = some (.int .i64 y.made) ∧ w'.cell? ⟨(ad.add (b * 9)).block, (ad.add (b * 9)).off + 7, none⟩ = some (.int .i64 y.kind) ∧ w'.cell? ⟨(ad.add (b * 9)).block, (ad.add (b * 9)).off + 8, none⟩ = some (.string (bstr y.team)))) := Lib.hid (fun w' hg => by
            have h1 := HKX.out.same (same_below hg) HKX.out.lt
            have h2 := HKC4.out.same (same_below hg) HKC4.out.lt
            have hyb := HYB.out
            exact ⟨h1.cell 0, h1.cell 1, h1.cell 2, h1.cell 3, h1.cell 4, h1.cell 5, h1.cell 6, h1.cell 7, h1.cell 8, h2.cell 0, h2.cell 1, (hg.cell (p := (ad.add (b * 9))) hyb).trans HY0.out, (hg.cell (p := ⟨(ad.add (b * 9)).block, (ad.add (b * 9)).off + 1, none⟩) hyb).trans HY1.out, (hg.cell (p := ⟨(ad.add (b * 9)).block, (ad.add (b * 9)).off + 2, none⟩) hyb).trans HY2.out, (hg.cell (p := ⟨(ad.add (b * 9)).block, (ad.add (b * 9)).off + 3, none⟩) hyb).trans HY3.out, (hg.cell (p := ⟨(ad.add (b * 9)).block, (ad.add (b * 9)).off + 4, none⟩) hyb).trans HY4.out, (hg.cell (p := ⟨(ad.add (b * 9)).block, (ad.add (b * 9)).off + 5, none⟩) hyb).trans HY5.out, (hg.cell (p := ⟨(ad.add (b * 9)).block, (ad.add (b * 9)).off + 6, none⟩) hyb).trans HY6.out, (hg.cell (p := ⟨(ad.add (b * 9)).block, (ad.add (b * 9)).off + 7, none⟩) hyb).trans HY7.out, (hg.cell (p := ⟨(ad.add (b * 9)).block, (ad.add (b * 9)).off + 8, none⟩) hyb).trans HY8.out⟩)
          refine wp_region_held_drew (S := fun w' => w'.cell? ⟨xb, 0, none⟩ = some (.string (bstr x.id)) ∧ w'.cell? ⟨xb, 1, none⟩ = some (.string (bstr x.pre)) ∧ w'.cell? ⟨xb, 2, none⟩ = some (.int .i64 x.frm) ∧ w'.cell? ⟨xb, 3, none⟩ = some (.int .i64 x.to) ∧ w'.cell? ⟨xb, 4, none⟩ = some (.int .i64 x.st) ∧ w'.cell? ⟨xb, 5, none⟩ = some (.int .i64 x.en) ∧ w'.cell? ⟨xb, 6, none⟩ = some (.int .i64 x.made) ∧ w'.cell? ⟨xb, 7, none⟩ = some (.int .i64 x.kind) ∧ w'.cell? ⟨xb, 8, none⟩ = some (.string (bstr x.team)) ∧ w'.cell? ⟨cb, 0, none⟩ = some (.string (bstr c.key)) ∧ w'.cell? ⟨cb, 1, none⟩ = some (.int .i64 c.time) ∧ w'.cell? (ad.add (b * 9)) = some (.string (bstr y.id)) ∧ w'.cell? ⟨(ad.add (b * 9)).block, (ad.add (b * 9)).off + 1, none⟩ = some (.string (bstr y.pre)) ∧ w'.cell? ⟨(ad.add (b * 9)).block, (ad.add (b * 9)).off + 2, none⟩ = some (.int .i64 y.frm) ∧ w'.cell? ⟨(ad.add (b * 9)).block, (ad.add (b * 9)).off + 3, none⟩ = some (.int .i64 y.to) ∧ w'.cell? ⟨(ad.add (b * 9)).block, (ad.add (b * 9)).off + 4, none⟩ = some (.int .i64 y.st) ∧ w'.cell? ⟨(ad.add (b * 9)).block, (ad.add (b * 9)).off + 5, none⟩ = some (.int .i64 y.en) ∧ w'.cell? ⟨(ad.add (b * 9)).block, (ad.add (b * 9)).off + 6, none⟩ = some (.int .i64 y.made) ∧ w'.cell? ⟨(ad.add (b * 9)).block, (ad.add (b * 9)).off + 7, none⟩ = some (.int .i64 y.kind) ∧ w'.cell? ⟨(ad.add (b * 9)).block, (ad.add (b * 9)).off + 8, none⟩ = some (.string (bstr y.team))) (by kernel_rfl) (KEEP.out _ (Below.drew (Below.refl _ _))) (fun hHeld => ?_)
          obtain ⟨wq, hwq⟩ : ∃ wq, wq = World.drew wr4 := ⟨_, rfl⟩
          have HG0 : Hid (Below wr4.heap.size wr4 wq) := Lib.hid (by rw [hwq]; exact Below.drew (Below.refl _ _))
          rw [← hwq] at hHeld ⊢
          clear hwq
          refine wpAnyH_take (i := 0) (v := ?_) rfl (by kernel_rfl) (by kernel_rfl) (by kernel_rfl) (fun _ _ _ h => h) (Or.inl ⟨by rfl, ?_⟩) (by assumption) ?_
          rotate_left
          · (intro w hSw; (try dsimp only at hSw); go_simp; try with_reducible rfl)
          try simp only [List.getElem_toArray, List.getElem_cons_succ, List.getElem_cons_zero, Act.put, List.setIfInBounds_toArray, List.set_cons_zero, List.set_cons_succ]
          refine wpAnyH_take (i := 1) (v := ?_) rfl (by kernel_rfl) (by kernel_rfl) (by kernel_rfl) (fun _ _ _ h => h) (Or.inl ⟨by rfl, ?_⟩) (by assumption) ?_
          rotate_left
          · (intro w hSw; (try dsimp only at hSw); go_simp; try with_reducible rfl)
          try simp only [List.getElem_toArray, List.getElem_cons_succ, List.getElem_cons_zero, Act.put, List.setIfInBounds_toArray, List.set_cons_zero, List.set_cons_succ]
          refine wpAnyH_take (i := 2) (v := ?_) rfl (by kernel_rfl) (by kernel_rfl) (by kernel_rfl) (fun _ _ _ h => h) (Or.inl ⟨by rfl, ?_⟩) (by assumption) ?_
          rotate_left
          · (intro w hSw; (try dsimp only at hSw); go_simp; try with_reducible rfl)
          try simp only [List.getElem_toArray, List.getElem_cons_succ, List.getElem_cons_zero, Act.put, List.setIfInBounds_toArray, List.set_cons_zero, List.set_cons_succ]
          refine wpAnyH_ready (rs := [3]) (by kernel_rfl) (by simp) ?_
          refine AllReadyH.cons rfl (fun K hK => ?_) AllReadyH.nil
          rw [if_pos (by rfl)]
          simp only [List.getElem_toArray, List.getElem_cons_succ, List.getElem_cons_zero]
          go_simp
          go_at_call 59
          refine (HCN.out _).mono ?_
          rintro e w5 ⟨rfl, hw⟩
          have HG5 : Hid (Below wr4.heap.size wr4 w5) := Lib.hid (HG0.out.trans (hw.mono HG0.out.size))
          clear hw
          show K _ w5
          refine hK.out _ _ (KEEP.out _ HG5.out) (fun hHeld => ?_)
          clear hK K
          try simp only [List.getElem_toArray, List.getElem_cons_succ, List.getElem_cons_zero, Act.put, List.setIfInBounds_toArray, List.set_cons_zero, List.set_cons_succ]
          refine wpAnyH_take (i := 4) (v := ?_) rfl (by kernel_rfl) (by kernel_rfl) (by kernel_rfl) (fun _ _ _ h => h) (Or.inl ⟨by rfl, ?_⟩) (by assumption) ?_
          rotate_left
          · (intro w hSw; (try dsimp only at hSw); go_simp; try with_reducible rfl)
          try simp only [List.getElem_toArray, List.getElem_cons_succ, List.getElem_cons_zero, Act.put, List.setIfInBounds_toArray, List.set_cons_zero, List.set_cons_succ]
          refine wpAnyH_take (i := 5) (v := ?_) rfl (by kernel_rfl) (by kernel_rfl) (by kernel_rfl) (fun _ _ _ h => h) (Or.inl ⟨by rfl, ?_⟩) (by assumption) ?_
          rotate_left
          · (intro w hSw; (try dsimp only at hSw); go_simp; try with_reducible rfl)
          try simp only [List.getElem_toArray, List.getElem_cons_succ, List.getElem_cons_zero, Act.put, List.setIfInBounds_toArray, List.set_cons_zero, List.set_cons_succ]
          refine wpAnyH_take (i := 6) (v := ?_) rfl (by kernel_rfl) (by kernel_rfl) (by kernel_rfl) (fun _ _ _ h => h) (Or.inl ⟨by rfl, ?_⟩) (by assumption) ?_
          rotate_left
          · (intro w hSw; (try dsimp only at hSw); go_simp; try with_reducible rfl)
          try simp only [List.getElem_toArray, List.getElem_cons_succ, List.getElem_cons_zero, Act.put, List.setIfInBounds_toArray, List.set_cons_zero, List.set_cons_succ]
          refine wpAnyH_take (i := 7) (v := ?_) rfl (by kernel_rfl) (by kernel_rfl) (by kernel_rfl) (fun _ _ _ h => h) (Or.inl ⟨by rfl, ?_⟩) (by assumption) ?_
          rotate_left
          · (intro w hSw; (try dsimp only at hSw); go_simp; try with_reducible rfl)
          try simp only [List.getElem_toArray, List.getElem_cons_succ, List.getElem_cons_zero, Act.put, List.setIfInBounds_toArray, List.set_cons_zero, List.set_cons_succ]
          refine wpAnyH_take (i := 8) (v := ?_) rfl (by kernel_rfl) (by kernel_rfl) (by kernel_rfl) (fun _ _ _ h => h) (Or.inl ⟨by rfl, ?_⟩) (by assumption) ?_
          rotate_left
          · (intro w hSw; (try dsimp only at hSw); go_simp; try with_reducible rfl)
          try simp only [List.getElem_toArray, List.getElem_cons_succ, List.getElem_cons_zero, Act.put, List.setIfInBounds_toArray, List.set_cons_zero, List.set_cons_succ]
          refine wpAnyH_take (i := 9) (v := ?_) rfl (by kernel_rfl) (by kernel_rfl) (by kernel_rfl) (fun _ _ _ h => h) (Or.inl ⟨by rfl, ?_⟩) (by assumption) ?_
          rotate_left
          · (intro w hSw; (try dsimp only at hSw); go_simp; try with_reducible rfl)
          try simp only [List.getElem_toArray, List.getElem_cons_succ, List.getElem_cons_zero, Act.put, List.setIfInBounds_toArray, List.set_cons_zero, List.set_cons_succ]
          refine wpAnyH_take (i := 10) (v := ?_) rfl (by kernel_rfl) (by kernel_rfl) (by kernel_rfl) (fun _ _ _ h => h) (Or.inl ⟨by rfl, ?_⟩) (by assumption) ?_
          rotate_left
          · (intro w hSw; (try dsimp only at hSw); go_simp; try with_reducible rfl)
          try simp only [List.getElem_toArray, List.getElem_cons_succ, List.getElem_cons_zero, Act.put, List.setIfInBounds_toArray, List.set_cons_zero, List.set_cons_succ]
          refine wpAnyH_take (i := 11) (v := ?_) rfl (by kernel_rfl) (by kernel_rfl) (by kernel_rfl) (fun _ _ _ h => h) (Or.inl ⟨by rfl, ?_⟩) (by assumption) ?_
          rotate_left
          · (intro w hSw; (try dsimp only at hSw); go_simp; try with_reducible rfl)
          try simp only [List.getElem_toArray, List.getElem_cons_succ, List.getElem_cons_zero, Act.put, List.setIfInBounds_toArray, List.set_cons_zero, List.set_cons_succ]
          refine wpAnyH_take (i := 12) (v := ?_) rfl (by kernel_rfl) (by kernel_rfl) (by kernel_rfl) (fun _ _ _ h => h) (Or.inl ⟨by rfl, ?_⟩) (by assumption) ?_
          rotate_left
          · (intro w hSw; (try dsimp only at hSw); go_simp; try with_reducible rfl)
          try simp only [List.getElem_toArray, List.getElem_cons_succ, List.getElem_cons_zero, Act.put, List.setIfInBounds_toArray, List.set_cons_zero, List.set_cons_succ]
          refine wpAnyH_ready (rs := [13]) (by kernel_rfl) (by simp) ?_
          refine AllReadyH.cons rfl (fun K hK => ?_) AllReadyH.nil
          rw [if_pos (by rfl)]
          simp only [List.getElem_toArray, List.getElem_cons_succ, List.getElem_cons_zero]
          go_simp
          go_at_call 60
          refine (HNE.out _).mono ?_
          rintro e w6 ⟨rfl, hw⟩
          have HG6 : Hid (Below wr4.heap.size wr4 w6) := Lib.hid (HG5.out.trans (hw.mono HG5.out.size))
          clear hw
          show K _ w6
          refine hK.out _ _ (KEEP.out _ HG6.out) (fun hHeld => ?_)
          clear hK K
          try simp only [List.getElem_toArray, List.getElem_cons_succ, List.getElem_cons_zero, Act.put, List.setIfInBounds_toArray, List.set_cons_zero, List.set_cons_succ]
          refine wpAnyH_take (i := 14) (v := ?_) rfl (by kernel_rfl) (by kernel_rfl) (by kernel_rfl) (fun _ _ _ h => h) (Or.inl ⟨by rfl, ?_⟩) (by assumption) ?_
          rotate_left
          · (intro w hSw; (try dsimp only at hSw); go_simp; try with_reducible rfl)
          try simp only [List.getElem_toArray, List.getElem_cons_succ, List.getElem_cons_zero, Act.put, List.setIfInBounds_toArray, List.set_cons_zero, List.set_cons_succ]
          refine wpAnyH_take (i := 15) (v := ?_) rfl (by kernel_rfl) (by kernel_rfl) (by kernel_rfl) (fun _ _ _ h => h) (Or.inl ⟨by rfl, ?_⟩) (by assumption) ?_
          rotate_left
          · (intro w hSw; (try dsimp only at hSw); go_simp; try with_reducible rfl)
          try simp only [List.getElem_toArray, List.getElem_cons_succ, List.getElem_cons_zero, Act.put, List.setIfInBounds_toArray, List.set_cons_zero, List.set_cons_succ]
          refine wpAnyH_take (i := 16) (v := ?_) rfl (by kernel_rfl) (by kernel_rfl) (by kernel_rfl) (fun _ _ _ h => h) (Or.inl ⟨by rfl, ?_⟩) (by assumption) ?_
          rotate_left
          · (intro w hSw; (try dsimp only at hSw); go_simp; try with_reducible rfl)
          try simp only [List.getElem_toArray, List.getElem_cons_succ, List.getElem_cons_zero, Act.put, List.setIfInBounds_toArray, List.set_cons_zero, List.set_cons_succ]
          refine wpAnyH_done (by kernel_rfl) ?_ _
          clear hHeld KEEP
          have HBZ := Lib.hid (HB4.out.trans (HG6.out.mono HB4.out.size))
          go_wp2_with fail
          go_roundw
          case rel => first | exact ⟨k + 1, by omega, by go_num, by rw [HE.out], HBZ⟩ | (repeat (apply Exists.intro); (refine And.intro ?_ ?_; rotate_left; (repeat' (first | exact rfl | apply And.intro)); exact ⟨k + 1, by omega, by go_num, by rw [HE.out], HBZ⟩))
          case measure => simp [intOf]; omega
        · have HE : Hid (rOf l c at_ (k + 1) = (b : Int)) := Lib.hid (HR.out.trans (if_neg (fun e => e.2.elim (fun h => by omega) hn)))
          have n2 : decide (nr < 0) = false := decide_eq_false hn
          clear hcb HR
          have KEEP : Hid (∀ w', Below wr4.heap.size wr4 w' → (w'.cell? ⟨xb, 0, none⟩ = some (.string (bstr x.id)) ∧ w'.cell? ⟨xb, 1, none⟩ = some (.string (bstr x.pre)) ∧ w'.cell? ⟨xb, 2, none⟩ = some (.int .i64 x.frm) ∧ w'.cell? ⟨xb, 3, none⟩ = some (.int .i64 x.to) ∧ w'.cell? ⟨xb, 4, none⟩ = some (.int .i64 x.st) ∧ w'.cell? ⟨xb, 5, none⟩ = some (.int .i64 x.en) ∧ w'.cell? ⟨xb, 6, none⟩ = some (.int .i64 x.made) ∧ w'.cell? ⟨xb, 7, none⟩ = some (.int .i64 x.kind) ∧ w'.cell? ⟨xb, 8, none⟩ = some (.string (bstr x.team)) ∧ w'.cell? ⟨cb, 0, none⟩ = some (.string (bstr c.key)) ∧ w'.cell? ⟨cb, 1, none⟩ = some (.int .i64 c.time) ∧ w'.cell? (ad.add (b * 9)) = some (.string (bstr y.id)) ∧ w'.cell? ⟨(ad.add (b * 9)).block, (ad.add (b * 9)).off + 1, none⟩ = some (.string (bstr y.pre)) ∧ w'.cell? ⟨(ad.add (b * 9)).block, (ad.add (b * 9)).off + 2, none⟩ = some (.int .i64 y.frm) ∧ w'.cell? ⟨(ad.add (b * 9)).block, (ad.add (b * 9)).off + 3, none⟩ = some (.int .i64 y.to) ∧ w'.cell? ⟨(ad.add (b * 9)).block, (ad.add (b * 9)).off + 4, none⟩ = some (.int .i64 y.st) ∧ w'.cell? ⟨(ad.add (b * 9)).block, (ad.add (b * 9)).off + 5, none⟩ = some (.int .i64 y.en) ∧ w'.cell? ⟨(ad.add (b * 9)).block, (ad.add (b * 9)).off + 6, none⟩ = some (.int .i64 y.made) ∧ w'.cell? ⟨(ad.add (b * 9)).block, (ad.add (b * 9)).off + 7, none⟩ = some (.int .i64 y.kind) ∧ w'.cell? ⟨(ad.add (b * 9)).block, (ad.add (b * 9)).off + 8, none⟩ = some (.string (bstr y.team)))) := Lib.hid (fun w' hg => by
            have h1 := HKX.out.same (same_below hg) HKX.out.lt
            have h2 := HKC4.out.same (same_below hg) HKC4.out.lt
            have hyb := HYB.out
            exact ⟨h1.cell 0, h1.cell 1, h1.cell 2, h1.cell 3, h1.cell 4, h1.cell 5, h1.cell 6, h1.cell 7, h1.cell 8, h2.cell 0, h2.cell 1, (hg.cell (p := (ad.add (b * 9))) hyb).trans HY0.out, (hg.cell (p := ⟨(ad.add (b * 9)).block, (ad.add (b * 9)).off + 1, none⟩) hyb).trans HY1.out, (hg.cell (p := ⟨(ad.add (b * 9)).block, (ad.add (b * 9)).off + 2, none⟩) hyb).trans HY2.out, (hg.cell (p := ⟨(ad.add (b * 9)).block, (ad.add (b * 9)).off + 3, none⟩) hyb).trans HY3.out, (hg.cell (p := ⟨(ad.add (b * 9)).block, (ad.add (b * 9)).off + 4, none⟩) hyb).trans HY4.out, (hg.cell (p := ⟨(ad.add (b * 9)).block, (ad.add (b * 9)).off + 5, none⟩) hyb).trans HY5.out, (hg.cell (p := ⟨(ad.add (b * 9)).block, (ad.add (b * 9)).off + 6, none⟩) hyb).trans HY6.out, (hg.cell (p := ⟨(ad.add (b * 9)).block, (ad.add (b * 9)).off + 7, none⟩) hyb).trans HY7.out, (hg.cell (p := ⟨(ad.add (b * 9)).block, (ad.add (b * 9)).off + 8, none⟩) hyb).trans HY8.out⟩)
          refine wp_region_held_drew (S := fun w' => w'.cell? ⟨xb, 0, none⟩ = some (.string (bstr x.id)) ∧ w'.cell? ⟨xb, 1, none⟩ = some (.string (bstr x.pre)) ∧ w'.cell? ⟨xb, 2, none⟩ = some (.int .i64 x.frm) ∧ w'.cell? ⟨xb, 3, none⟩ = some (.int .i64 x.to) ∧ w'.cell? ⟨xb, 4, none⟩ = some (.int .i64 x.st) ∧ w'.cell? ⟨xb, 5, none⟩ = some (.int .i64 x.en) ∧ w'.cell? ⟨xb, 6, none⟩ = some (.int .i64 x.made) ∧ w'.cell? ⟨xb, 7, none⟩ = some (.int .i64 x.kind) ∧ w'.cell? ⟨xb, 8, none⟩ = some (.string (bstr x.team)) ∧ w'.cell? ⟨cb, 0, none⟩ = some (.string (bstr c.key)) ∧ w'.cell? ⟨cb, 1, none⟩ = some (.int .i64 c.time) ∧ w'.cell? (ad.add (b * 9)) = some (.string (bstr y.id)) ∧ w'.cell? ⟨(ad.add (b * 9)).block, (ad.add (b * 9)).off + 1, none⟩ = some (.string (bstr y.pre)) ∧ w'.cell? ⟨(ad.add (b * 9)).block, (ad.add (b * 9)).off + 2, none⟩ = some (.int .i64 y.frm) ∧ w'.cell? ⟨(ad.add (b * 9)).block, (ad.add (b * 9)).off + 3, none⟩ = some (.int .i64 y.to) ∧ w'.cell? ⟨(ad.add (b * 9)).block, (ad.add (b * 9)).off + 4, none⟩ = some (.int .i64 y.st) ∧ w'.cell? ⟨(ad.add (b * 9)).block, (ad.add (b * 9)).off + 5, none⟩ = some (.int .i64 y.en) ∧ w'.cell? ⟨(ad.add (b * 9)).block, (ad.add (b * 9)).off + 6, none⟩ = some (.int .i64 y.made) ∧ w'.cell? ⟨(ad.add (b * 9)).block, (ad.add (b * 9)).off + 7, none⟩ = some (.int .i64 y.kind) ∧ w'.cell? ⟨(ad.add (b * 9)).block, (ad.add (b * 9)).off + 8, none⟩ = some (.string (bstr y.team))) (by kernel_rfl) (KEEP.out _ (Below.drew (Below.refl _ _))) (fun hHeld => ?_)
          obtain ⟨wq, hwq⟩ : ∃ wq, wq = World.drew wr4 := ⟨_, rfl⟩
          have HG0 : Hid (Below wr4.heap.size wr4 wq) := Lib.hid (by rw [hwq]; exact Below.drew (Below.refl _ _))
          rw [← hwq] at hHeld ⊢
          clear hwq
          refine wpAnyH_take (i := 0) (v := ?_) rfl (by kernel_rfl) (by kernel_rfl) (by kernel_rfl) (fun _ _ _ h => h) (Or.inl ⟨by rfl, ?_⟩) (by assumption) ?_
          rotate_left
          · (intro w hSw; (try dsimp only at hSw); go_simp; try with_reducible rfl)
          try simp only [List.getElem_toArray, List.getElem_cons_succ, List.getElem_cons_zero, Act.put, List.setIfInBounds_toArray, List.set_cons_zero, List.set_cons_succ]
          refine wpAnyH_take (i := 1) (v := ?_) rfl (by kernel_rfl) (by kernel_rfl) (by kernel_rfl) (fun _ _ _ h => h) (Or.inl ⟨by rfl, ?_⟩) (by assumption) ?_
          rotate_left
          · (intro w hSw; (try dsimp only at hSw); go_simp; try with_reducible rfl)
          try simp only [List.getElem_toArray, List.getElem_cons_succ, List.getElem_cons_zero, Act.put, List.setIfInBounds_toArray, List.set_cons_zero, List.set_cons_succ]
          refine wpAnyH_take (i := 2) (v := ?_) rfl (by kernel_rfl) (by kernel_rfl) (by kernel_rfl) (fun _ _ _ h => h) (Or.inl ⟨by rfl, ?_⟩) (by assumption) ?_
          rotate_left
          · (intro w hSw; (try dsimp only at hSw); go_simp; try with_reducible rfl)
          try simp only [List.getElem_toArray, List.getElem_cons_succ, List.getElem_cons_zero, Act.put, List.setIfInBounds_toArray, List.set_cons_zero, List.set_cons_succ]
          refine wpAnyH_ready (rs := [3]) (by kernel_rfl) (by simp) ?_
          refine AllReadyH.cons rfl (fun K hK => ?_) AllReadyH.nil
          rw [if_pos (by rfl)]
          simp only [List.getElem_toArray, List.getElem_cons_succ, List.getElem_cons_zero]
          go_simp
          go_at_call 59
          refine (HCN.out _).mono ?_
          rintro e w5 ⟨rfl, hw⟩
          have HG5 : Hid (Below wr4.heap.size wr4 w5) := Lib.hid (HG0.out.trans (hw.mono HG0.out.size))
          clear hw
          show K _ w5
          refine hK.out _ _ (KEEP.out _ HG5.out) (fun hHeld => ?_)
          clear hK K
          try simp only [List.getElem_toArray, List.getElem_cons_succ, List.getElem_cons_zero, Act.put, List.setIfInBounds_toArray, List.set_cons_zero, List.set_cons_succ]
          refine wpAnyH_take (i := 4) (v := ?_) rfl (by kernel_rfl) (by kernel_rfl) (by kernel_rfl) (fun _ _ _ h => h) (Or.inl ⟨by rfl, ?_⟩) (by assumption) ?_
          rotate_left
          · (intro w hSw; (try dsimp only at hSw); go_simp; try with_reducible rfl)
          try simp only [List.getElem_toArray, List.getElem_cons_succ, List.getElem_cons_zero, Act.put, List.setIfInBounds_toArray, List.set_cons_zero, List.set_cons_succ]
          refine wpAnyH_take (i := 5) (v := ?_) rfl (by kernel_rfl) (by kernel_rfl) (by kernel_rfl) (fun _ _ _ h => h) (Or.inl ⟨by rfl, ?_⟩) (by assumption) ?_
          rotate_left
          · (intro w hSw; (try dsimp only at hSw); go_simp; try with_reducible rfl)
          try simp only [List.getElem_toArray, List.getElem_cons_succ, List.getElem_cons_zero, Act.put, List.setIfInBounds_toArray, List.set_cons_zero, List.set_cons_succ]
          refine wpAnyH_take (i := 6) (v := ?_) rfl (by kernel_rfl) (by kernel_rfl) (by kernel_rfl) (fun _ _ _ h => h) (Or.inl ⟨by rfl, ?_⟩) (by assumption) ?_
          rotate_left
          · (intro w hSw; (try dsimp only at hSw); go_simp; try with_reducible rfl)
          try simp only [List.getElem_toArray, List.getElem_cons_succ, List.getElem_cons_zero, Act.put, List.setIfInBounds_toArray, List.set_cons_zero, List.set_cons_succ]
          refine wpAnyH_take (i := 7) (v := ?_) rfl (by kernel_rfl) (by kernel_rfl) (by kernel_rfl) (fun _ _ _ h => h) (Or.inl ⟨by rfl, ?_⟩) (by assumption) ?_
          rotate_left
          · (intro w hSw; (try dsimp only at hSw); go_simp; try with_reducible rfl)
          try simp only [List.getElem_toArray, List.getElem_cons_succ, List.getElem_cons_zero, Act.put, List.setIfInBounds_toArray, List.set_cons_zero, List.set_cons_succ]
          refine wpAnyH_take (i := 8) (v := ?_) rfl (by kernel_rfl) (by kernel_rfl) (by kernel_rfl) (fun _ _ _ h => h) (Or.inl ⟨by rfl, ?_⟩) (by assumption) ?_
          rotate_left
          · (intro w hSw; (try dsimp only at hSw); go_simp; try with_reducible rfl)
          try simp only [List.getElem_toArray, List.getElem_cons_succ, List.getElem_cons_zero, Act.put, List.setIfInBounds_toArray, List.set_cons_zero, List.set_cons_succ]
          refine wpAnyH_take (i := 9) (v := ?_) rfl (by kernel_rfl) (by kernel_rfl) (by kernel_rfl) (fun _ _ _ h => h) (Or.inl ⟨by rfl, ?_⟩) (by assumption) ?_
          rotate_left
          · (intro w hSw; (try dsimp only at hSw); go_simp; try with_reducible rfl)
          try simp only [List.getElem_toArray, List.getElem_cons_succ, List.getElem_cons_zero, Act.put, List.setIfInBounds_toArray, List.set_cons_zero, List.set_cons_succ]
          refine wpAnyH_take (i := 10) (v := ?_) rfl (by kernel_rfl) (by kernel_rfl) (by kernel_rfl) (fun _ _ _ h => h) (Or.inl ⟨by rfl, ?_⟩) (by assumption) ?_
          rotate_left
          · (intro w hSw; (try dsimp only at hSw); go_simp; try with_reducible rfl)
          try simp only [List.getElem_toArray, List.getElem_cons_succ, List.getElem_cons_zero, Act.put, List.setIfInBounds_toArray, List.set_cons_zero, List.set_cons_succ]
          refine wpAnyH_take (i := 11) (v := ?_) rfl (by kernel_rfl) (by kernel_rfl) (by kernel_rfl) (fun _ _ _ h => h) (Or.inl ⟨by rfl, ?_⟩) (by assumption) ?_
          rotate_left
          · (intro w hSw; (try dsimp only at hSw); go_simp; try with_reducible rfl)
          try simp only [List.getElem_toArray, List.getElem_cons_succ, List.getElem_cons_zero, Act.put, List.setIfInBounds_toArray, List.set_cons_zero, List.set_cons_succ]
          refine wpAnyH_take (i := 12) (v := ?_) rfl (by kernel_rfl) (by kernel_rfl) (by kernel_rfl) (fun _ _ _ h => h) (Or.inl ⟨by rfl, ?_⟩) (by assumption) ?_
          rotate_left
          · (intro w hSw; (try dsimp only at hSw); go_simp; try with_reducible rfl)
          try simp only [List.getElem_toArray, List.getElem_cons_succ, List.getElem_cons_zero, Act.put, List.setIfInBounds_toArray, List.set_cons_zero, List.set_cons_succ]
          refine wpAnyH_ready (rs := [13]) (by kernel_rfl) (by simp) ?_
          refine AllReadyH.cons rfl (fun K hK => ?_) AllReadyH.nil
          rw [if_pos (by rfl)]
          simp only [List.getElem_toArray, List.getElem_cons_succ, List.getElem_cons_zero]
          go_simp
          go_at_call 60
          refine (HNE.out _).mono ?_
          rintro e w6 ⟨rfl, hw⟩
          have HG6 : Hid (Below wr4.heap.size wr4 w6) := Lib.hid (HG5.out.trans (hw.mono HG5.out.size))
          clear hw
          show K _ w6
          refine hK.out _ _ (KEEP.out _ HG6.out) (fun hHeld => ?_)
          clear hK K
          try simp only [List.getElem_toArray, List.getElem_cons_succ, List.getElem_cons_zero, Act.put, List.setIfInBounds_toArray, List.set_cons_zero, List.set_cons_succ]
          refine wpAnyH_take (i := 14) (v := ?_) rfl (by kernel_rfl) (by kernel_rfl) (by kernel_rfl) (fun _ _ _ h => h) (Or.inl ⟨by rfl, ?_⟩) (by assumption) ?_
          rotate_left
          · (intro w hSw; (try dsimp only at hSw); go_simp; try with_reducible rfl)
          try simp only [List.getElem_toArray, List.getElem_cons_succ, List.getElem_cons_zero, Act.put, List.setIfInBounds_toArray, List.set_cons_zero, List.set_cons_succ]
          refine wpAnyH_take (i := 15) (v := ?_) rfl (by kernel_rfl) (by kernel_rfl) (by kernel_rfl) (fun _ _ _ h => h) (Or.inl ⟨by rfl, ?_⟩) (by assumption) ?_
          rotate_left
          · (intro w hSw; (try dsimp only at hSw); go_simp; try with_reducible rfl)
          try simp only [List.getElem_toArray, List.getElem_cons_succ, List.getElem_cons_zero, Act.put, List.setIfInBounds_toArray, List.set_cons_zero, List.set_cons_succ]
          refine wpAnyH_take (i := 16) (v := ?_) rfl (by kernel_rfl) (by kernel_rfl) (by kernel_rfl) (fun _ _ _ h => h) (Or.inl ⟨by rfl, ?_⟩) (by assumption) ?_
          rotate_left
          · (intro w hSw; (try dsimp only at hSw); go_simp; try with_reducible rfl)
          try simp only [List.getElem_toArray, List.getElem_cons_succ, List.getElem_cons_zero, Act.put, List.setIfInBounds_toArray, List.set_cons_zero, List.set_cons_succ]
          refine wpAnyH_done (by kernel_rfl) ?_ _
          clear hHeld KEEP
          have HBZ := Lib.hid (HB4.out.trans (HG6.out.mono HB4.out.size))
          go_wp2_with fail
          go_roundw
          case rel => first | exact ⟨k + 1, by omega, by go_num, by rw [HE.out], HBZ⟩ | (repeat (apply Exists.intro); (refine And.intro ?_ ?_; rotate_left; (repeat' (first | exact rfl | apply And.intro)); exact ⟨k + 1, by omega, by go_num, by rw [HE.out], HBZ⟩))
          case measure => simp [intOf]; omega
    · obtain rfl : k = l.length := by omega
      go_wp2_with fail
      go_ret
      exact ⟨rfl, HBW.out⟩
end Go.Proofs.YtdljgjlkfihjdaaGreatDoor
