/-
  'idle' of package rights.
-/
import Derived.Test.YtdljgjlkfihjdaaGreatDoorCov
import Derived.Test.YtdljgjlkfihjdaaGreatDoorNear
import Derived.Deep.RegionHeld
namespace Go.Proofs.YtdljgjlkfihjdaaGreatDoor
open Go.RowKit
set_option linter.unusedVariables false
set_option linter.unusedSimpArgs false

theorem heldMonoI {P : Program} {ops : Array Oper} {Q : Exit → Act → World → Prop} {md : Region.Mode} {S S' : World → Prop} (h : ∀ w, S' w → S w) : ∀ (fuel : Nat) (listed : Array Bool) (a : Act) (w : World), wpAnyH P md ops Q S' fuel listed a w → wpAnyH P md ops Q S fuel listed a w
  | 0, _, _, _, h0 => h0
  | fuel + 1, _, _, _, h0 => ⟨h0.1, fun i hi => wpOp_mono (fun a' w' h' => ⟨h w' h'.1, heldMonoI h fuel _ a' w' h'.2⟩) (h0.2 i hi)⟩
set_option maxRecDepth 100000 in
set_option maxHeartbeats 16000000 in
theorem idle_any (v : Value) (l : List Rgt) (i : Nat) (r : Rgt) (key : List UInt8) (w : World) (h : (Rp.sl rgtRp).ok w (· < w.heap.size) [v] l) (hl : l.length ≤ 300) (hi : i < l.length) (hri : l[i] = r) (hb : ∀ x ∈ l, RBd x) (hk : key.length ≤ 9223372036854775807) :
    Calls Tryz.prog 12 #[v, .int .i64 (i : Int), .string (bstr key)] w fun e w' => e = .returned (.bool (covB r (beforeK l r key))) ∧ Below w.heap.size w w' := by
  obtain ⟨A, c, rfl, hlc, hc, _⟩ := Rp.sl_open h
  unfold maxLen at hc
  have H0 := Lib.hid h
  have HRI := Lib.hid hri
  have HLB := Lib.hid hb
  have HRB := Lib.hid (hb r (by rw [← hri]; exact List.getElem_mem hi))
  have HRK : Hid (∀ x ∈ l, RgtOk x) := Lib.hid (fun x hx => by
    obtain ⟨j, hj, rfl⟩ := List.mem_iff_getElem.1 hx
    obtain ⟨_, _, _, _, _, _, _, _, _, _, _, _, _, hz⟩ := rgt_at h hj
    exact hz)
  clear h hri hb
  go_enter Tryz.func12, Tryz.ntmps12
  go_wp2_with fail
  go_loopw [7, 12] (fun vo vi wr => ∃ m : Nat, m ≤ l.length ∧ vi = .int .i64 m ∧ Hid (wr.ownsRow w.heap.size 38 9 vo (beforeK (l.take m) r key).length ((beforeK (l.take m) r key).flatMap rgtCells)) ∧ Hid (Below w.heap.size w wr)) (fun _ vi _ => l.length - (intOf vi).toNat)
  case atStart => exact ⟨0, by omega, rfl, World.ownsRow_nil _ _ _ _, Below.refl _ _⟩
  case round =>
    obtain ⟨m, hm, rfl, HO, HB⟩ := hrel
    obtain ⟨Ao, co, hvo, hco1, hco2, _⟩ := own_form HO.out
    subst hvo
    have hsl : (beforeK (l.take m) r key).length ≤ m := by
      unfold beforeK
      exact Nat.le_trans (List.length_filter_le _ _) (by rw [List.length_take]; omega)
    by_cases hlm : m < l.length
    · obtain ⟨ad, c', e1, hadb, c0, c1, c2, c3, c4, c5, c6, c7, c8, hz⟩ := rgt_at (Rp.ext _ H0.out HB.out) hlm
      cases e1
      have HS := Lib.hid (beforeK_take (r := r) (k := key) hlm)
      generalize l[m] = x at *
      generalize beforeK (l.take m) r key = E at *
      have hal := (Below.refl wr.heap.size wr).alloc (Nat.le_refl _) (.cells #[.string (bstr x.id), .string (bstr x.pre), .int .i64 x.frm, .int .i64 x.to, .int .i64 x.st, .int .i64 x.en, .int .i64 x.made, .int .i64 x.kind, .string (bstr x.team)] 38)
      have HBA := Lib.hid (ext_trans HB.out hal)
      have HOA := Lib.hid (own_below HO.out hal)
      have HXA : Hid (Blk (wr.alloc (.cells #[.string (bstr x.id), .string (bstr x.pre), .int .i64 x.frm, .int .i64 x.to, .int .i64 x.st, .int .i64 x.en, .int .i64 x.made, .int .i64 x.kind, .string (bstr x.team)] 38)) wr.heap.size 38 (rgtCells x)) := Lib.hid (Blk.new wr 38 (rgtCells x))
      have hmL : (m : Int) < (l.length : Int) := by omega
      clear hal HO HB hadb hz
      cases hp : preB key x.pre with
      | false =>
        have HP := Lib.hid hp
        rw [if_neg (fun h => by rw [hp] at h; cases h.1), List.append_nil] at HS
        clear hp
        go_wp2_with fail
        clear c0 c1 c2 c3 c4 c5 c6 c7 c8
        generalize (wr.alloc (.cells #[.string (bstr x.id), .string (bstr x.pre), .int .i64 x.frm, .int .i64 x.to, .int .i64 x.st, .int .i64 x.en, .int .i64 x.made, .int .i64 x.kind, .string (bstr x.team)] 38)) = wa at *
        generalize wr.heap.size = xb at *
        refine wp_region_held_drew (S := fun w' => Below wa.heap.size wa w') (by kernel_rfl) (Below.drew (Below.refl _ _)) (fun hHeld0 => ?_)
        obtain ⟨wq, hwq⟩ : ∃ wq, wq = World.drew wa := ⟨_, rfl⟩
        have hbq : Below wa.heap.size wa wq := by rw [hwq]; exact Below.drew (Below.refl _ _)
        have HBQ := Lib.hid (ext_trans HBA.out hbq)
        have HXq := Lib.hid (HXA.out.same (same_below hbq) HXA.out.lt)
        have HOq := Lib.hid (own_below HOA.out hbq)
        rw [← hwq] at hHeld0 ⊢
        refine heldMonoI (S' := fun w' => Below wq.heap.size wq w') (fun w' h => ext_trans hbq h) _ _ _ _ ?_
        have hHeld : Below wq.heap.size wq wq := Below.refl _ _
        clear hHeld0 hbq hwq
        refine wpAnyH_take (i := 0) (v := ?_) rfl (by kernel_rfl) (by kernel_rfl) (by kernel_rfl) (fun _ _ _ h => h) (Or.inl ⟨by rfl, ?_⟩) (by assumption) ?_
        rotate_left
        · (intro w hSw; go_simp; try with_reducible rfl)
        try simp only [List.getElem_toArray, List.getElem_cons_succ, List.getElem_cons_zero, Act.put, List.setIfInBounds_toArray, List.set_cons_zero, List.set_cons_succ]
        refine wpAnyH_take (i := 1) (v := ?_) rfl (by kernel_rfl) (by kernel_rfl) (by kernel_rfl) (fun _ _ _ h => h) (Or.inl ⟨by rfl, ?_⟩) (by assumption) ?_
        rotate_left
        · (intro w hSw; go_simp; try with_reducible rfl)
        try simp only [List.getElem_toArray, List.getElem_cons_succ, List.getElem_cons_zero, Act.put, List.setIfInBounds_toArray, List.set_cons_zero, List.set_cons_succ]
        refine wpAnyH_take (i := 2) (v := ?_) rfl (by kernel_rfl) (by kernel_rfl) (by kernel_rfl) (fun _ _ _ h => h) (Or.inl ⟨by rfl, ?_⟩) (by assumption) ?_
        rotate_left
        · (intro w hSw; have q0 : w.cell? ⟨xb, 1, none⟩ = some (.string (bstr x.pre)) := (hSw.cell (p := ⟨xb, 1, none⟩) HXq.out.lt).trans (HXq.out.cell 1); go_simp; try with_reducible rfl)
        try simp only [List.getElem_toArray, List.getElem_cons_succ, List.getElem_cons_zero, Act.put, List.setIfInBounds_toArray, List.set_cons_zero, List.set_cons_succ]
        refine wpAnyH_ready (rs := [3]) (by kernel_rfl) (by simp) ?_
        refine AllReadyH.cons rfl (fun K hK => ?_) AllReadyH.nil
        rw [if_pos (by rfl)]
        simp only [List.getElem_toArray, List.getElem_cons_succ, List.getElem_cons_zero]
        go_simp
        go_at_call 24
        refine (hasPre_any key x.pre _ hk).mono ?_
        rintro e w3 ⟨rfl, hw⟩
        subst hw
        have hbw3 : Below w3.heap.size w3 w3 := Below.refl _ _
        rw [HP.out]
        have hhw3 := (Below.refl w3.heap.size w3)
        show K _ w3
        refine hK.out _ _ hhw3 (fun hHeld0 => ?_)
        clear hK K hHeld0 hbw3
        try simp only [List.getElem_toArray, List.getElem_cons_succ, List.getElem_cons_zero, Act.put, List.setIfInBounds_toArray, List.set_cons_zero, List.set_cons_succ]
        refine wpAnyH_take (i := 4) (v := ?_) rfl (by kernel_rfl) (by kernel_rfl) (by kernel_rfl) (fun _ _ _ h => h) (Or.inl ⟨by rfl, ?_⟩) (by assumption) ?_
        rotate_left
        · (intro w hSw; go_simp; try with_reducible rfl)
        try simp only [List.getElem_toArray, List.getElem_cons_succ, List.getElem_cons_zero, Act.put, List.setIfInBounds_toArray, List.set_cons_zero, List.set_cons_succ]
        refine wpAnyH_take (i := 5) (v := undef) rfl (by kernel_rfl) (by kernel_rfl) (by kernel_rfl) (fun _ _ _ h => h) (Or.inr ⟨by rfl, rfl⟩) (by assumption) ?_
        try simp only [List.getElem_toArray, List.getElem_cons_succ, List.getElem_cons_zero, Act.put, List.setIfInBounds_toArray, List.set_cons_zero, List.set_cons_succ]
        refine wpAnyH_take (i := 6) (v := undef) rfl (by kernel_rfl) (by kernel_rfl) (by kernel_rfl) (fun _ _ _ h => h) (Or.inr ⟨by rfl, rfl⟩) (by assumption) ?_
        try simp only [List.getElem_toArray, List.getElem_cons_succ, List.getElem_cons_zero, Act.put, List.setIfInBounds_toArray, List.set_cons_zero, List.set_cons_succ]
        refine wpAnyH_take (i := 7) (v := undef) rfl (by kernel_rfl) (by kernel_rfl) (by kernel_rfl) (fun _ _ _ h => h) (Or.inr ⟨by rfl, rfl⟩) (by assumption) ?_
        try simp only [List.getElem_toArray, List.getElem_cons_succ, List.getElem_cons_zero, Act.put, List.setIfInBounds_toArray, List.set_cons_zero, List.set_cons_succ]
        refine wpAnyH_take (i := 8) (v := undef) rfl (by kernel_rfl) (by kernel_rfl) (by kernel_rfl) (fun _ _ _ h => h) (Or.inr ⟨by rfl, rfl⟩) (by assumption) ?_
        try simp only [List.getElem_toArray, List.getElem_cons_succ, List.getElem_cons_zero, Act.put, List.setIfInBounds_toArray, List.set_cons_zero, List.set_cons_succ]
        refine wpAnyH_take (i := 9) (v := undef) rfl (by kernel_rfl) (by kernel_rfl) (by kernel_rfl) (fun _ _ _ h => h) (Or.inr ⟨by rfl, rfl⟩) (by assumption) ?_
        try simp only [List.getElem_toArray, List.getElem_cons_succ, List.getElem_cons_zero, Act.put, List.setIfInBounds_toArray, List.set_cons_zero, List.set_cons_succ]
        refine wpAnyH_take (i := 10) (v := undef) rfl (by kernel_rfl) (by kernel_rfl) (by kernel_rfl) (fun _ _ _ h => h) (Or.inr ⟨by rfl, rfl⟩) (by assumption) ?_
        try simp only [List.getElem_toArray, List.getElem_cons_succ, List.getElem_cons_zero, Act.put, List.setIfInBounds_toArray, List.set_cons_zero, List.set_cons_succ]
        refine wpAnyH_take (i := 11) (v := undef) rfl (by kernel_rfl) (by kernel_rfl) (by kernel_rfl) (fun _ _ _ h => h) (Or.inr ⟨by rfl, rfl⟩) (by assumption) ?_
        try simp only [List.getElem_toArray, List.getElem_cons_succ, List.getElem_cons_zero, Act.put, List.setIfInBounds_toArray, List.set_cons_zero, List.set_cons_succ]
        refine wpAnyH_take (i := 12) (v := ?_) rfl (by kernel_rfl) (by kernel_rfl) (by kernel_rfl) (fun _ _ _ h => h) (Or.inl ⟨by rfl, ?_⟩) (by assumption) ?_
        rotate_left
        · (intro w hSw; go_simp; try with_reducible rfl)
        try simp only [List.getElem_toArray, List.getElem_cons_succ, List.getElem_cons_zero, Act.put, List.setIfInBounds_toArray, List.set_cons_zero, List.set_cons_succ]
        refine wpAnyH_take (i := 13) (v := ?_) rfl (by kernel_rfl) (by kernel_rfl) (by kernel_rfl) (fun _ _ _ h => h) (Or.inl ⟨by rfl, ?_⟩) (by assumption) ?_
        rotate_left
        · (intro w hSw; go_simp; try with_reducible rfl)
        try simp only [List.getElem_toArray, List.getElem_cons_succ, List.getElem_cons_zero, Act.put, List.setIfInBounds_toArray, List.set_cons_zero, List.set_cons_succ]
        refine wpAnyH_take (i := 14) (v := undef) rfl (by kernel_rfl) (by kernel_rfl) (by kernel_rfl) (fun _ _ _ h => h) (Or.inr ⟨by rfl, rfl⟩) (by assumption) ?_
        try simp only [List.getElem_toArray, List.getElem_cons_succ, List.getElem_cons_zero, Act.put, List.setIfInBounds_toArray, List.set_cons_zero, List.set_cons_succ]
        refine wpAnyH_take (i := 15) (v := undef) rfl (by kernel_rfl) (by kernel_rfl) (by kernel_rfl) (fun _ _ _ h => h) (Or.inr ⟨by rfl, rfl⟩) (by assumption) ?_
        try simp only [List.getElem_toArray, List.getElem_cons_succ, List.getElem_cons_zero, Act.put, List.setIfInBounds_toArray, List.set_cons_zero, List.set_cons_succ]
        refine wpAnyH_take (i := 16) (v := undef) rfl (by kernel_rfl) (by kernel_rfl) (by kernel_rfl) (fun _ _ _ h => h) (Or.inr ⟨by rfl, rfl⟩) (by assumption) ?_
        try simp only [List.getElem_toArray, List.getElem_cons_succ, List.getElem_cons_zero, Act.put, List.setIfInBounds_toArray, List.set_cons_zero, List.set_cons_succ]
        refine wpAnyH_take (i := 17) (v := undef) rfl (by kernel_rfl) (by kernel_rfl) (by kernel_rfl) (fun _ _ _ h => h) (Or.inr ⟨by rfl, rfl⟩) (by assumption) ?_
        try simp only [List.getElem_toArray, List.getElem_cons_succ, List.getElem_cons_zero, Act.put, List.setIfInBounds_toArray, List.set_cons_zero, List.set_cons_succ]
        refine wpAnyH_take (i := 18) (v := undef) rfl (by kernel_rfl) (by kernel_rfl) (by kernel_rfl) (fun _ _ _ h => h) (Or.inr ⟨by rfl, rfl⟩) (by assumption) ?_
        try simp only [List.getElem_toArray, List.getElem_cons_succ, List.getElem_cons_zero, Act.put, List.setIfInBounds_toArray, List.set_cons_zero, List.set_cons_succ]
        refine wpAnyH_take (i := 19) (v := ?_) rfl (by kernel_rfl) (by kernel_rfl) (by kernel_rfl) (fun _ _ _ h => h) (Or.inl ⟨by rfl, ?_⟩) (by assumption) ?_
        rotate_left
        · (intro w hSw; go_simp; try with_reducible rfl)
        try simp only [List.getElem_toArray, List.getElem_cons_succ, List.getElem_cons_zero, Act.put, List.setIfInBounds_toArray, List.set_cons_zero, List.set_cons_succ]
        refine wpAnyH_done (by kernel_rfl) ?_ _
        have HBz := Lib.hid (Below.refl w3.heap.size w3)
        obtain ⟨wz, hwz⟩ : ∃ wz, wz = w3 := ⟨_, rfl⟩
        subst hwz
        have HXz := Lib.hid (HXq.out.same (same_below HBz.out) HXq.out.lt)
        have HOz := Lib.hid (own_below HOq.out HBz.out)
        have HBY := Lib.hid (ext_trans HBQ.out HBz.out)
        clear HXq HOq HBQ HBz
        go_wp2_with fail
        go_roundw
        case rel => first | exact ⟨m + 1, by omega, by go_num, Lib.hid (by rw [HS.out]; exact HOz.out), HBY⟩ | (repeat (apply Exists.intro); (refine And.intro ?_ ?_; rotate_left; (repeat' (first | exact rfl | apply And.intro)); exact ⟨m + 1, by omega, by go_num, Lib.hid (by rw [HS.out]; exact HOz.out), HBY⟩))
        case measure => simp [intOf]; omega
      | true =>
        have HP := Lib.hid hp
        by_cases hn : near x r < 0
        · by_cases ha : fromI x < x.en
          · rw [if_pos ⟨hp, hn, ha⟩] at HS
            clear hp
            go_wp2_with fail
            clear c0 c1 c2 c3 c4 c5 c6 c7 c8
            generalize (wr.alloc (.cells #[.string (bstr x.id), .string (bstr x.pre), .int .i64 x.frm, .int .i64 x.to, .int .i64 x.st, .int .i64 x.en, .int .i64 x.made, .int .i64 x.kind, .string (bstr x.team)] 38)) = wa at *
            generalize wr.heap.size = xb at *
            refine wp_region_held_drew (S := fun w' => Below wa.heap.size wa w') (by kernel_rfl) (Below.drew (Below.refl _ _)) (fun hHeld0 => ?_)
            obtain ⟨wq, hwq⟩ : ∃ wq, wq = World.drew wa := ⟨_, rfl⟩
            have hbq : Below wa.heap.size wa wq := by rw [hwq]; exact Below.drew (Below.refl _ _)
            have HBQ := Lib.hid (ext_trans HBA.out hbq)
            have HXq := Lib.hid (HXA.out.same (same_below hbq) HXA.out.lt)
            have HOq := Lib.hid (own_below HOA.out hbq)
            rw [← hwq] at hHeld0 ⊢
            refine heldMonoI (S' := fun w' => Below wq.heap.size wq w') (fun w' h => ext_trans hbq h) _ _ _ _ ?_
            have hHeld : Below wq.heap.size wq wq := Below.refl _ _
            clear hHeld0 hbq hwq
            obtain ⟨adI, cI, eI, hadI, d0, d1, d2, d3, d4, d5, d6, d7, d8, _⟩ := rgt_at (Rp.ext _ H0.out HBQ.out) hi
            cases eI
            rw [HRI.out] at d0 d1 d2 d3 d4 d5 d6 d7 d8
            have hadJ : (ad.add (i * 9)).block < wq.heap.size := by rw [add_block]; exact hadI
            have hiL : (i : Int) < (l.length : Int) := by omega
            refine wpAnyH_take (i := 0) (v := ?_) rfl (by kernel_rfl) (by kernel_rfl) (by kernel_rfl) (fun _ _ _ h => h) (Or.inl ⟨by rfl, ?_⟩) (by assumption) ?_
            rotate_left
            · (intro w hSw; go_simp; try with_reducible rfl)
            try simp only [List.getElem_toArray, List.getElem_cons_succ, List.getElem_cons_zero, Act.put, List.setIfInBounds_toArray, List.set_cons_zero, List.set_cons_succ]
            refine wpAnyH_take (i := 1) (v := ?_) rfl (by kernel_rfl) (by kernel_rfl) (by kernel_rfl) (fun _ _ _ h => h) (Or.inl ⟨by rfl, ?_⟩) (by assumption) ?_
            rotate_left
            · (intro w hSw; go_simp; try with_reducible rfl)
            try simp only [List.getElem_toArray, List.getElem_cons_succ, List.getElem_cons_zero, Act.put, List.setIfInBounds_toArray, List.set_cons_zero, List.set_cons_succ]
            refine wpAnyH_take (i := 2) (v := ?_) rfl (by kernel_rfl) (by kernel_rfl) (by kernel_rfl) (fun _ _ _ h => h) (Or.inl ⟨by rfl, ?_⟩) (by assumption) ?_
            rotate_left
            · (intro w hSw; have q0 : w.cell? ⟨xb, 1, none⟩ = some (.string (bstr x.pre)) := (hSw.cell (p := ⟨xb, 1, none⟩) HXq.out.lt).trans (HXq.out.cell 1); go_simp; try with_reducible rfl)
            try simp only [List.getElem_toArray, List.getElem_cons_succ, List.getElem_cons_zero, Act.put, List.setIfInBounds_toArray, List.set_cons_zero, List.set_cons_succ]
            refine wpAnyH_ready (rs := [3]) (by kernel_rfl) (by simp) ?_
            refine AllReadyH.cons rfl (fun K hK => ?_) AllReadyH.nil
            rw [if_pos (by rfl)]
            simp only [List.getElem_toArray, List.getElem_cons_succ, List.getElem_cons_zero]
            go_simp
            go_at_call 24
            refine (hasPre_any key x.pre _ hk).mono ?_
            rintro e w3 ⟨rfl, hw⟩
            subst hw
            have hbw3 : Below w3.heap.size w3 w3 := Below.refl _ _
            rw [HP.out]
            have hhw3 := (Below.refl w3.heap.size w3)
            show K _ w3
            refine hK.out _ _ hhw3 (fun hHeld0 => ?_)
            clear hK K hHeld0 hbw3
            try simp only [List.getElem_toArray, List.getElem_cons_succ, List.getElem_cons_zero, Act.put, List.setIfInBounds_toArray, List.set_cons_zero, List.set_cons_succ]
            refine wpAnyH_take (i := 4) (v := ?_) rfl (by kernel_rfl) (by kernel_rfl) (by kernel_rfl) (fun _ _ _ h => h) (Or.inl ⟨by rfl, ?_⟩) (by assumption) ?_
            rotate_left
            · (intro w hSw; go_simp; try with_reducible rfl)
            try simp only [List.getElem_toArray, List.getElem_cons_succ, List.getElem_cons_zero, Act.put, List.setIfInBounds_toArray, List.set_cons_zero, List.set_cons_succ]
            refine wpAnyH_take (i := 5) (v := ?_) rfl (by kernel_rfl) (by kernel_rfl) (by kernel_rfl) (fun _ _ _ h => h) (Or.inl ⟨by rfl, ?_⟩) (by assumption) ?_
            rotate_left
            · (intro w hSw; have q0 : w.cell? ⟨xb, 0, none⟩ = some (.string (bstr x.id)) := (hSw.cell (p := ⟨xb, 0, none⟩) HXq.out.lt).trans (HXq.out.cell 0); have q1 : w.cell? ⟨xb, 1, none⟩ = some (.string (bstr x.pre)) := (hSw.cell (p := ⟨xb, 1, none⟩) HXq.out.lt).trans (HXq.out.cell 1); have q2 : w.cell? ⟨xb, 2, none⟩ = some (.int .i64 x.frm) := (hSw.cell (p := ⟨xb, 2, none⟩) HXq.out.lt).trans (HXq.out.cell 2); have q3 : w.cell? ⟨xb, 3, none⟩ = some (.int .i64 x.to) := (hSw.cell (p := ⟨xb, 3, none⟩) HXq.out.lt).trans (HXq.out.cell 3); have q4 : w.cell? ⟨xb, 4, none⟩ = some (.int .i64 x.st) := (hSw.cell (p := ⟨xb, 4, none⟩) HXq.out.lt).trans (HXq.out.cell 4); have q5 : w.cell? ⟨xb, 5, none⟩ = some (.int .i64 x.en) := (hSw.cell (p := ⟨xb, 5, none⟩) HXq.out.lt).trans (HXq.out.cell 5); have q6 : w.cell? ⟨xb, 6, none⟩ = some (.int .i64 x.made) := (hSw.cell (p := ⟨xb, 6, none⟩) HXq.out.lt).trans (HXq.out.cell 6); have q7 : w.cell? ⟨xb, 7, none⟩ = some (.int .i64 x.kind) := (hSw.cell (p := ⟨xb, 7, none⟩) HXq.out.lt).trans (HXq.out.cell 7); have q8 : w.cell? ⟨xb, 8, none⟩ = some (.string (bstr x.team)) := (hSw.cell (p := ⟨xb, 8, none⟩) HXq.out.lt).trans (HXq.out.cell 8); go_simp; try with_reducible rfl)
            try simp only [List.getElem_toArray, List.getElem_cons_succ, List.getElem_cons_zero, Act.put, List.setIfInBounds_toArray, List.set_cons_zero, List.set_cons_succ]
            refine wpAnyH_take (i := 6) (v := ?_) rfl (by kernel_rfl) (by kernel_rfl) (by kernel_rfl) (fun _ _ _ h => h) (Or.inl ⟨by rfl, ?_⟩) (by assumption) ?_
            rotate_left
            · (intro w hSw; go_simp; try with_reducible rfl)
            try simp only [List.getElem_toArray, List.getElem_cons_succ, List.getElem_cons_zero, Act.put, List.setIfInBounds_toArray, List.set_cons_zero, List.set_cons_succ]
            refine wpAnyH_take (i := 7) (v := ?_) rfl (by kernel_rfl) (by kernel_rfl) (by kernel_rfl) (fun _ _ _ h => h) (Or.inl ⟨by rfl, ?_⟩) (by assumption) ?_
            rotate_left
            · (intro w hSw; go_simp; try with_reducible rfl)
            try simp only [List.getElem_toArray, List.getElem_cons_succ, List.getElem_cons_zero, Act.put, List.setIfInBounds_toArray, List.set_cons_zero, List.set_cons_succ]
            refine wpAnyH_take (i := 8) (v := ?_) rfl (by kernel_rfl) (by kernel_rfl) (by kernel_rfl) (fun _ _ _ h => h) (Or.inl ⟨by rfl, ?_⟩) (by assumption) ?_
            rotate_left
            · (intro w hSw; go_simp; (try rw [if_pos (by omega)]); (try rw [Int.toNat_natCast]); try with_reducible rfl)
            try simp only [List.getElem_toArray, List.getElem_cons_succ, List.getElem_cons_zero, Act.put, List.setIfInBounds_toArray, List.set_cons_zero, List.set_cons_succ]
            refine wpAnyH_take (i := 9) (v := ?_) rfl (by kernel_rfl) (by kernel_rfl) (by kernel_rfl) (fun _ _ _ h => h) (Or.inl ⟨by rfl, ?_⟩) (by assumption) ?_
            rotate_left
            · (intro w hSw; have q0 : w.cell? (ad.add (i * 9)) = some (.string (bstr r.id)) := (hSw.cell (p := (ad.add (i * 9))) hadJ).trans d0; have q1 : w.cell? ⟨(ad.add (i * 9)).block, (ad.add (i * 9)).off + 1, none⟩ = some (.string (bstr r.pre)) := (hSw.cell (p := ⟨(ad.add (i * 9)).block, (ad.add (i * 9)).off + 1, none⟩) hadJ).trans d1; have q2 : w.cell? ⟨(ad.add (i * 9)).block, (ad.add (i * 9)).off + 2, none⟩ = some (.int .i64 r.frm) := (hSw.cell (p := ⟨(ad.add (i * 9)).block, (ad.add (i * 9)).off + 2, none⟩) hadJ).trans d2; have q3 : w.cell? ⟨(ad.add (i * 9)).block, (ad.add (i * 9)).off + 3, none⟩ = some (.int .i64 r.to) := (hSw.cell (p := ⟨(ad.add (i * 9)).block, (ad.add (i * 9)).off + 3, none⟩) hadJ).trans d3; have q4 : w.cell? ⟨(ad.add (i * 9)).block, (ad.add (i * 9)).off + 4, none⟩ = some (.int .i64 r.st) := (hSw.cell (p := ⟨(ad.add (i * 9)).block, (ad.add (i * 9)).off + 4, none⟩) hadJ).trans d4; have q5 : w.cell? ⟨(ad.add (i * 9)).block, (ad.add (i * 9)).off + 5, none⟩ = some (.int .i64 r.en) := (hSw.cell (p := ⟨(ad.add (i * 9)).block, (ad.add (i * 9)).off + 5, none⟩) hadJ).trans d5; have q6 : w.cell? ⟨(ad.add (i * 9)).block, (ad.add (i * 9)).off + 6, none⟩ = some (.int .i64 r.made) := (hSw.cell (p := ⟨(ad.add (i * 9)).block, (ad.add (i * 9)).off + 6, none⟩) hadJ).trans d6; have q7 : w.cell? ⟨(ad.add (i * 9)).block, (ad.add (i * 9)).off + 7, none⟩ = some (.int .i64 r.kind) := (hSw.cell (p := ⟨(ad.add (i * 9)).block, (ad.add (i * 9)).off + 7, none⟩) hadJ).trans d7; have q8 : w.cell? ⟨(ad.add (i * 9)).block, (ad.add (i * 9)).off + 8, none⟩ = some (.string (bstr r.team)) := (hSw.cell (p := ⟨(ad.add (i * 9)).block, (ad.add (i * 9)).off + 8, none⟩) hadJ).trans d8; go_simp; try with_reducible rfl)
            try simp only [List.getElem_toArray, List.getElem_cons_succ, List.getElem_cons_zero, Act.put, List.setIfInBounds_toArray, List.set_cons_zero, List.set_cons_succ]
            refine wpAnyH_ready (rs := [10]) (by kernel_rfl) (by simp) ?_
            refine AllReadyH.cons rfl (fun K hK => ?_) AllReadyH.nil
            rw [if_pos (by rfl)]
            simp only [List.getElem_toArray, List.getElem_cons_succ, List.getElem_cons_zero]
            go_simp
            go_at_call 25
            refine (near_any x r _).mono ?_
            rintro e w5 ⟨rfl, hbw5⟩
            have hhw5 := ext_trans (Below.refl w3.heap.size w3) hbw5
            show K _ w5
            refine hK.out _ _ hhw5 (fun hHeld0 => ?_)
            clear hK K hHeld0 hbw5
            try simp only [List.getElem_toArray, List.getElem_cons_succ, List.getElem_cons_zero, Act.put, List.setIfInBounds_toArray, List.set_cons_zero, List.set_cons_succ]
            refine wpAnyH_take (i := 11) (v := ?_) rfl (by kernel_rfl) (by kernel_rfl) (by kernel_rfl) (fun _ _ _ h => h) (Or.inl ⟨by rfl, ?_⟩) (by assumption) ?_
            rotate_left
            · (intro w hSw; go_simp; try with_reducible rfl)
            try simp only [List.getElem_toArray, List.getElem_cons_succ, List.getElem_cons_zero, Act.put, List.setIfInBounds_toArray, List.set_cons_zero, List.set_cons_succ]
            refine wpAnyH_take (i := 12) (v := ?_) rfl (by kernel_rfl) (by kernel_rfl) (by kernel_rfl) (fun _ _ _ h => h) (Or.inl ⟨by rfl, ?_⟩) (by assumption) ?_
            rotate_left
            · (intro w hSw; go_simp; try with_reducible rfl)
            try simp only [List.getElem_toArray, List.getElem_cons_succ, List.getElem_cons_zero, Act.put, List.setIfInBounds_toArray, List.set_cons_zero, List.set_cons_succ]
            refine wpAnyH_take (i := 13) (v := ?_) rfl (by kernel_rfl) (by kernel_rfl) (by kernel_rfl) (fun _ _ _ h => h) (Or.inl ⟨by rfl, ?_⟩) (by assumption) ?_
            rotate_left
            · (intro w hSw; go_simp; try with_reducible rfl)
            try simp only [List.getElem_toArray, List.getElem_cons_succ, List.getElem_cons_zero, Act.put, List.setIfInBounds_toArray, List.set_cons_zero, List.set_cons_succ]
            refine wpAnyH_take (i := 14) (v := ?_) rfl (by kernel_rfl) (by kernel_rfl) (by kernel_rfl) (fun _ _ _ h => h) (Or.inl ⟨by rfl, ?_⟩) (by assumption) ?_
            rotate_left
            · (intro w hSw; have q0 : w.cell? ⟨xb, 0, none⟩ = some (.string (bstr x.id)) := (hSw.cell (p := ⟨xb, 0, none⟩) HXq.out.lt).trans (HXq.out.cell 0); have q1 : w.cell? ⟨xb, 1, none⟩ = some (.string (bstr x.pre)) := (hSw.cell (p := ⟨xb, 1, none⟩) HXq.out.lt).trans (HXq.out.cell 1); have q2 : w.cell? ⟨xb, 2, none⟩ = some (.int .i64 x.frm) := (hSw.cell (p := ⟨xb, 2, none⟩) HXq.out.lt).trans (HXq.out.cell 2); have q3 : w.cell? ⟨xb, 3, none⟩ = some (.int .i64 x.to) := (hSw.cell (p := ⟨xb, 3, none⟩) HXq.out.lt).trans (HXq.out.cell 3); have q4 : w.cell? ⟨xb, 4, none⟩ = some (.int .i64 x.st) := (hSw.cell (p := ⟨xb, 4, none⟩) HXq.out.lt).trans (HXq.out.cell 4); have q5 : w.cell? ⟨xb, 5, none⟩ = some (.int .i64 x.en) := (hSw.cell (p := ⟨xb, 5, none⟩) HXq.out.lt).trans (HXq.out.cell 5); have q6 : w.cell? ⟨xb, 6, none⟩ = some (.int .i64 x.made) := (hSw.cell (p := ⟨xb, 6, none⟩) HXq.out.lt).trans (HXq.out.cell 6); have q7 : w.cell? ⟨xb, 7, none⟩ = some (.int .i64 x.kind) := (hSw.cell (p := ⟨xb, 7, none⟩) HXq.out.lt).trans (HXq.out.cell 7); have q8 : w.cell? ⟨xb, 8, none⟩ = some (.string (bstr x.team)) := (hSw.cell (p := ⟨xb, 8, none⟩) HXq.out.lt).trans (HXq.out.cell 8); go_simp; try with_reducible rfl)
            try simp only [List.getElem_toArray, List.getElem_cons_succ, List.getElem_cons_zero, Act.put, List.setIfInBounds_toArray, List.set_cons_zero, List.set_cons_succ]
            refine wpAnyH_take (i := 16) (v := ?_) rfl (by kernel_rfl) (by kernel_rfl) (by kernel_rfl) (fun _ _ _ h => h) (Or.inl ⟨by rfl, ?_⟩) (by assumption) ?_
            rotate_left
            · (intro w hSw; go_simp; try with_reducible rfl)
            try simp only [List.getElem_toArray, List.getElem_cons_succ, List.getElem_cons_zero, Act.put, List.setIfInBounds_toArray, List.set_cons_zero, List.set_cons_succ]
            refine wpAnyH_take (i := 17) (v := ?_) rfl (by kernel_rfl) (by kernel_rfl) (by kernel_rfl) (fun _ _ _ h => h) (Or.inl ⟨by rfl, ?_⟩) (by assumption) ?_
            rotate_left
            · (intro w hSw; have q0 : w.cell? ⟨xb, 5, none⟩ = some (.int .i64 x.en) := (hSw.cell (p := ⟨xb, 5, none⟩) HXq.out.lt).trans (HXq.out.cell 5); go_simp; try with_reducible rfl)
            try simp only [List.getElem_toArray, List.getElem_cons_succ, List.getElem_cons_zero, Act.put, List.setIfInBounds_toArray, List.set_cons_zero, List.set_cons_succ]
            refine wpAnyH_ready (rs := [15]) (by kernel_rfl) (by simp) ?_
            refine AllReadyH.cons rfl (fun K hK => ?_) AllReadyH.nil
            rw [if_pos (by rfl)]
            simp only [List.getElem_toArray, List.getElem_cons_succ, List.getElem_cons_zero]
            go_simp
            go_at_call 11
            refine (from_any x _).mono ?_
            rintro e w6 ⟨rfl, hbw6⟩
            have hhw6 := ext_trans hhw5 hbw6
            show K _ w6
            refine hK.out _ _ hhw6 (fun hHeld0 => ?_)
            clear hK K hHeld0 hbw6
            try simp only [List.getElem_toArray, List.getElem_cons_succ, List.getElem_cons_zero, Act.put, List.setIfInBounds_toArray, List.set_cons_zero, List.set_cons_succ]
            refine wpAnyH_take (i := 18) (v := ?_) rfl (by kernel_rfl) (by kernel_rfl) (by kernel_rfl) (fun _ _ _ h => h) (Or.inl ⟨by rfl, ?_⟩) (by assumption) ?_
            rotate_left
            · (intro w hSw; go_simp; try with_reducible rfl)
            try simp only [List.getElem_toArray, List.getElem_cons_succ, List.getElem_cons_zero, Act.put, List.setIfInBounds_toArray, List.set_cons_zero, List.set_cons_succ]
            refine wpAnyH_take (i := 19) (v := ?_) rfl (by kernel_rfl) (by kernel_rfl) (by kernel_rfl) (fun _ _ _ h => h) (Or.inl ⟨by rfl, ?_⟩) (by assumption) ?_
            rotate_left
            · (intro w hSw; go_simp; try with_reducible rfl)
            try simp only [List.getElem_toArray, List.getElem_cons_succ, List.getElem_cons_zero, Act.put, List.setIfInBounds_toArray, List.set_cons_zero, List.set_cons_succ]
            refine wpAnyH_done (by kernel_rfl) ?_ _
            have HBz := Lib.hid hhw6
            generalize w6 = wz at *
            have HXz := Lib.hid (HXq.out.same (same_below HBz.out) HXq.out.lt)
            have HOz := Lib.hid (own_below HOq.out HBz.out)
            have HBY := Lib.hid (ext_trans HBQ.out HBz.out)
            clear HXq HOq HBQ HBz
            have x0 : wz.cell? ⟨xb, 0, none⟩ = some (.string (bstr x.id)) := HXz.out.cell 0
            have x1 : wz.cell? ⟨xb, 1, none⟩ = some (.string (bstr x.pre)) := HXz.out.cell 1
            have x2 : wz.cell? ⟨xb, 2, none⟩ = some (.int .i64 x.frm) := HXz.out.cell 2
            have x3 : wz.cell? ⟨xb, 3, none⟩ = some (.int .i64 x.to) := HXz.out.cell 3
            have x4 : wz.cell? ⟨xb, 4, none⟩ = some (.int .i64 x.st) := HXz.out.cell 4
            have x5 : wz.cell? ⟨xb, 5, none⟩ = some (.int .i64 x.en) := HXz.out.cell 5
            have x6 : wz.cell? ⟨xb, 6, none⟩ = some (.int .i64 x.made) := HXz.out.cell 6
            have x7 : wz.cell? ⟨xb, 7, none⟩ = some (.int .i64 x.kind) := HXz.out.cell 7
            have x8 : wz.cell? ⟨xb, 8, none⟩ = some (.string (bstr x.team)) := HXz.out.cell 8
            go_wp2_with (at_builtin; go_must (refine app_new (w := wz) rfl (.tmp 36) (.tmp 38) 23 rfl 38 (.agg #[.string ⟨#[]⟩, .string ⟨#[]⟩, .int .i64 0, .int .i64 0, .int .i64 0, .int .i64 0, .int .i64 0, .int .i64 0, .string ⟨#[]⟩]) 9 96 Tryz.underlying23 rgt_info rfl (by decide) (m := 1) [.string (bstr x.id), .string (bstr x.pre), .int .i64 x.frm, .int .i64 x.to, .int .i64 x.st, .int .i64 x.en, .int .i64 x.made, .int .i64 x.kind, .string (bstr x.team)] HOz.out HBY.out.size rfl rfl rfl (by decide) (by simp [Value.oneCell']) (by unfold maxLen; omega) (by omega) ?_); intro g8 c8' w8 HO8 HG8 HE8 HL8)
            have HB8 := Lib.hid (HE8.out _ HBY.out)
            go_roundw
            case rel => first | exact ⟨m + 1, by omega, by go_num, Lib.hid (by rw [HS.out, List.length_append, List.flatMap_append]; exact HO8.out), HB8⟩ | (repeat (apply Exists.intro); (refine And.intro ?_ ?_; rotate_left; (repeat' (first | exact rfl | apply And.intro)); exact ⟨m + 1, by omega, by go_num, Lib.hid (by rw [HS.out, List.length_append, List.flatMap_append]; exact HO8.out), HB8⟩))
            case measure => simp [intOf]; omega
          · rw [if_neg (fun h => ha h.2.2), List.append_nil] at HS
            clear hp
            go_wp2_with fail
            clear c0 c1 c2 c3 c4 c5 c6 c7 c8
            generalize (wr.alloc (.cells #[.string (bstr x.id), .string (bstr x.pre), .int .i64 x.frm, .int .i64 x.to, .int .i64 x.st, .int .i64 x.en, .int .i64 x.made, .int .i64 x.kind, .string (bstr x.team)] 38)) = wa at *
            generalize wr.heap.size = xb at *
            refine wp_region_held_drew (S := fun w' => Below wa.heap.size wa w') (by kernel_rfl) (Below.drew (Below.refl _ _)) (fun hHeld0 => ?_)
            obtain ⟨wq, hwq⟩ : ∃ wq, wq = World.drew wa := ⟨_, rfl⟩
            have hbq : Below wa.heap.size wa wq := by rw [hwq]; exact Below.drew (Below.refl _ _)
            have HBQ := Lib.hid (ext_trans HBA.out hbq)
            have HXq := Lib.hid (HXA.out.same (same_below hbq) HXA.out.lt)
            have HOq := Lib.hid (own_below HOA.out hbq)
            rw [← hwq] at hHeld0 ⊢
            refine heldMonoI (S' := fun w' => Below wq.heap.size wq w') (fun w' h => ext_trans hbq h) _ _ _ _ ?_
            have hHeld : Below wq.heap.size wq wq := Below.refl _ _
            clear hHeld0 hbq hwq
            obtain ⟨adI, cI, eI, hadI, d0, d1, d2, d3, d4, d5, d6, d7, d8, _⟩ := rgt_at (Rp.ext _ H0.out HBQ.out) hi
            cases eI
            rw [HRI.out] at d0 d1 d2 d3 d4 d5 d6 d7 d8
            have hadJ : (ad.add (i * 9)).block < wq.heap.size := by rw [add_block]; exact hadI
            have hiL : (i : Int) < (l.length : Int) := by omega
            refine wpAnyH_take (i := 0) (v := ?_) rfl (by kernel_rfl) (by kernel_rfl) (by kernel_rfl) (fun _ _ _ h => h) (Or.inl ⟨by rfl, ?_⟩) (by assumption) ?_
            rotate_left
            · (intro w hSw; go_simp; try with_reducible rfl)
            try simp only [List.getElem_toArray, List.getElem_cons_succ, List.getElem_cons_zero, Act.put, List.setIfInBounds_toArray, List.set_cons_zero, List.set_cons_succ]
            refine wpAnyH_take (i := 1) (v := ?_) rfl (by kernel_rfl) (by kernel_rfl) (by kernel_rfl) (fun _ _ _ h => h) (Or.inl ⟨by rfl, ?_⟩) (by assumption) ?_
            rotate_left
            · (intro w hSw; go_simp; try with_reducible rfl)
            try simp only [List.getElem_toArray, List.getElem_cons_succ, List.getElem_cons_zero, Act.put, List.setIfInBounds_toArray, List.set_cons_zero, List.set_cons_succ]
            refine wpAnyH_take (i := 2) (v := ?_) rfl (by kernel_rfl) (by kernel_rfl) (by kernel_rfl) (fun _ _ _ h => h) (Or.inl ⟨by rfl, ?_⟩) (by assumption) ?_
            rotate_left
            · (intro w hSw; have q0 : w.cell? ⟨xb, 1, none⟩ = some (.string (bstr x.pre)) := (hSw.cell (p := ⟨xb, 1, none⟩) HXq.out.lt).trans (HXq.out.cell 1); go_simp; try with_reducible rfl)
            try simp only [List.getElem_toArray, List.getElem_cons_succ, List.getElem_cons_zero, Act.put, List.setIfInBounds_toArray, List.set_cons_zero, List.set_cons_succ]
            refine wpAnyH_ready (rs := [3]) (by kernel_rfl) (by simp) ?_
            refine AllReadyH.cons rfl (fun K hK => ?_) AllReadyH.nil
            rw [if_pos (by rfl)]
            simp only [List.getElem_toArray, List.getElem_cons_succ, List.getElem_cons_zero]
            go_simp
            go_at_call 24
            refine (hasPre_any key x.pre _ hk).mono ?_
            rintro e w3 ⟨rfl, hw⟩
            subst hw
            have hbw3 : Below w3.heap.size w3 w3 := Below.refl _ _
            rw [HP.out]
            have hhw3 := (Below.refl w3.heap.size w3)
            show K _ w3
            refine hK.out _ _ hhw3 (fun hHeld0 => ?_)
            clear hK K hHeld0 hbw3
            try simp only [List.getElem_toArray, List.getElem_cons_succ, List.getElem_cons_zero, Act.put, List.setIfInBounds_toArray, List.set_cons_zero, List.set_cons_succ]
            refine wpAnyH_take (i := 4) (v := ?_) rfl (by kernel_rfl) (by kernel_rfl) (by kernel_rfl) (fun _ _ _ h => h) (Or.inl ⟨by rfl, ?_⟩) (by assumption) ?_
            rotate_left
            · (intro w hSw; go_simp; try with_reducible rfl)
            try simp only [List.getElem_toArray, List.getElem_cons_succ, List.getElem_cons_zero, Act.put, List.setIfInBounds_toArray, List.set_cons_zero, List.set_cons_succ]
            refine wpAnyH_take (i := 5) (v := ?_) rfl (by kernel_rfl) (by kernel_rfl) (by kernel_rfl) (fun _ _ _ h => h) (Or.inl ⟨by rfl, ?_⟩) (by assumption) ?_
            rotate_left
            · (intro w hSw; have q0 : w.cell? ⟨xb, 0, none⟩ = some (.string (bstr x.id)) := (hSw.cell (p := ⟨xb, 0, none⟩) HXq.out.lt).trans (HXq.out.cell 0); have q1 : w.cell? ⟨xb, 1, none⟩ = some (.string (bstr x.pre)) := (hSw.cell (p := ⟨xb, 1, none⟩) HXq.out.lt).trans (HXq.out.cell 1); have q2 : w.cell? ⟨xb, 2, none⟩ = some (.int .i64 x.frm) := (hSw.cell (p := ⟨xb, 2, none⟩) HXq.out.lt).trans (HXq.out.cell 2); have q3 : w.cell? ⟨xb, 3, none⟩ = some (.int .i64 x.to) := (hSw.cell (p := ⟨xb, 3, none⟩) HXq.out.lt).trans (HXq.out.cell 3); have q4 : w.cell? ⟨xb, 4, none⟩ = some (.int .i64 x.st) := (hSw.cell (p := ⟨xb, 4, none⟩) HXq.out.lt).trans (HXq.out.cell 4); have q5 : w.cell? ⟨xb, 5, none⟩ = some (.int .i64 x.en) := (hSw.cell (p := ⟨xb, 5, none⟩) HXq.out.lt).trans (HXq.out.cell 5); have q6 : w.cell? ⟨xb, 6, none⟩ = some (.int .i64 x.made) := (hSw.cell (p := ⟨xb, 6, none⟩) HXq.out.lt).trans (HXq.out.cell 6); have q7 : w.cell? ⟨xb, 7, none⟩ = some (.int .i64 x.kind) := (hSw.cell (p := ⟨xb, 7, none⟩) HXq.out.lt).trans (HXq.out.cell 7); have q8 : w.cell? ⟨xb, 8, none⟩ = some (.string (bstr x.team)) := (hSw.cell (p := ⟨xb, 8, none⟩) HXq.out.lt).trans (HXq.out.cell 8); go_simp; try with_reducible rfl)
            try simp only [List.getElem_toArray, List.getElem_cons_succ, List.getElem_cons_zero, Act.put, List.setIfInBounds_toArray, List.set_cons_zero, List.set_cons_succ]
            refine wpAnyH_take (i := 6) (v := ?_) rfl (by kernel_rfl) (by kernel_rfl) (by kernel_rfl) (fun _ _ _ h => h) (Or.inl ⟨by rfl, ?_⟩) (by assumption) ?_
            rotate_left
            · (intro w hSw; go_simp; try with_reducible rfl)
            try simp only [List.getElem_toArray, List.getElem_cons_succ, List.getElem_cons_zero, Act.put, List.setIfInBounds_toArray, List.set_cons_zero, List.set_cons_succ]
            refine wpAnyH_take (i := 7) (v := ?_) rfl (by kernel_rfl) (by kernel_rfl) (by kernel_rfl) (fun _ _ _ h => h) (Or.inl ⟨by rfl, ?_⟩) (by assumption) ?_
            rotate_left
            · (intro w hSw; go_simp; try with_reducible rfl)
            try simp only [List.getElem_toArray, List.getElem_cons_succ, List.getElem_cons_zero, Act.put, List.setIfInBounds_toArray, List.set_cons_zero, List.set_cons_succ]
            refine wpAnyH_take (i := 8) (v := ?_) rfl (by kernel_rfl) (by kernel_rfl) (by kernel_rfl) (fun _ _ _ h => h) (Or.inl ⟨by rfl, ?_⟩) (by assumption) ?_
            rotate_left
            · (intro w hSw; go_simp; (try rw [if_pos (by omega)]); (try rw [Int.toNat_natCast]); try with_reducible rfl)
            try simp only [List.getElem_toArray, List.getElem_cons_succ, List.getElem_cons_zero, Act.put, List.setIfInBounds_toArray, List.set_cons_zero, List.set_cons_succ]
            refine wpAnyH_take (i := 9) (v := ?_) rfl (by kernel_rfl) (by kernel_rfl) (by kernel_rfl) (fun _ _ _ h => h) (Or.inl ⟨by rfl, ?_⟩) (by assumption) ?_
            rotate_left
            · (intro w hSw; have q0 : w.cell? (ad.add (i * 9)) = some (.string (bstr r.id)) := (hSw.cell (p := (ad.add (i * 9))) hadJ).trans d0; have q1 : w.cell? ⟨(ad.add (i * 9)).block, (ad.add (i * 9)).off + 1, none⟩ = some (.string (bstr r.pre)) := (hSw.cell (p := ⟨(ad.add (i * 9)).block, (ad.add (i * 9)).off + 1, none⟩) hadJ).trans d1; have q2 : w.cell? ⟨(ad.add (i * 9)).block, (ad.add (i * 9)).off + 2, none⟩ = some (.int .i64 r.frm) := (hSw.cell (p := ⟨(ad.add (i * 9)).block, (ad.add (i * 9)).off + 2, none⟩) hadJ).trans d2; have q3 : w.cell? ⟨(ad.add (i * 9)).block, (ad.add (i * 9)).off + 3, none⟩ = some (.int .i64 r.to) := (hSw.cell (p := ⟨(ad.add (i * 9)).block, (ad.add (i * 9)).off + 3, none⟩) hadJ).trans d3; have q4 : w.cell? ⟨(ad.add (i * 9)).block, (ad.add (i * 9)).off + 4, none⟩ = some (.int .i64 r.st) := (hSw.cell (p := ⟨(ad.add (i * 9)).block, (ad.add (i * 9)).off + 4, none⟩) hadJ).trans d4; have q5 : w.cell? ⟨(ad.add (i * 9)).block, (ad.add (i * 9)).off + 5, none⟩ = some (.int .i64 r.en) := (hSw.cell (p := ⟨(ad.add (i * 9)).block, (ad.add (i * 9)).off + 5, none⟩) hadJ).trans d5; have q6 : w.cell? ⟨(ad.add (i * 9)).block, (ad.add (i * 9)).off + 6, none⟩ = some (.int .i64 r.made) := (hSw.cell (p := ⟨(ad.add (i * 9)).block, (ad.add (i * 9)).off + 6, none⟩) hadJ).trans d6; have q7 : w.cell? ⟨(ad.add (i * 9)).block, (ad.add (i * 9)).off + 7, none⟩ = some (.int .i64 r.kind) := (hSw.cell (p := ⟨(ad.add (i * 9)).block, (ad.add (i * 9)).off + 7, none⟩) hadJ).trans d7; have q8 : w.cell? ⟨(ad.add (i * 9)).block, (ad.add (i * 9)).off + 8, none⟩ = some (.string (bstr r.team)) := (hSw.cell (p := ⟨(ad.add (i * 9)).block, (ad.add (i * 9)).off + 8, none⟩) hadJ).trans d8; go_simp; try with_reducible rfl)
            try simp only [List.getElem_toArray, List.getElem_cons_succ, List.getElem_cons_zero, Act.put, List.setIfInBounds_toArray, List.set_cons_zero, List.set_cons_succ]
            refine wpAnyH_ready (rs := [10]) (by kernel_rfl) (by simp) ?_
            refine AllReadyH.cons rfl (fun K hK => ?_) AllReadyH.nil
            rw [if_pos (by rfl)]
            simp only [List.getElem_toArray, List.getElem_cons_succ, List.getElem_cons_zero]
            go_simp
            go_at_call 25
            refine (near_any x r _).mono ?_
            rintro e w5 ⟨rfl, hbw5⟩
            have hhw5 := ext_trans (Below.refl w3.heap.size w3) hbw5
            show K _ w5
            refine hK.out _ _ hhw5 (fun hHeld0 => ?_)
            clear hK K hHeld0 hbw5
            try simp only [List.getElem_toArray, List.getElem_cons_succ, List.getElem_cons_zero, Act.put, List.setIfInBounds_toArray, List.set_cons_zero, List.set_cons_succ]
            refine wpAnyH_take (i := 11) (v := ?_) rfl (by kernel_rfl) (by kernel_rfl) (by kernel_rfl) (fun _ _ _ h => h) (Or.inl ⟨by rfl, ?_⟩) (by assumption) ?_
            rotate_left
            · (intro w hSw; go_simp; try with_reducible rfl)
            try simp only [List.getElem_toArray, List.getElem_cons_succ, List.getElem_cons_zero, Act.put, List.setIfInBounds_toArray, List.set_cons_zero, List.set_cons_succ]
            refine wpAnyH_take (i := 12) (v := ?_) rfl (by kernel_rfl) (by kernel_rfl) (by kernel_rfl) (fun _ _ _ h => h) (Or.inl ⟨by rfl, ?_⟩) (by assumption) ?_
            rotate_left
            · (intro w hSw; go_simp; try with_reducible rfl)
            try simp only [List.getElem_toArray, List.getElem_cons_succ, List.getElem_cons_zero, Act.put, List.setIfInBounds_toArray, List.set_cons_zero, List.set_cons_succ]
            refine wpAnyH_take (i := 13) (v := ?_) rfl (by kernel_rfl) (by kernel_rfl) (by kernel_rfl) (fun _ _ _ h => h) (Or.inl ⟨by rfl, ?_⟩) (by assumption) ?_
            rotate_left
            · (intro w hSw; go_simp; try with_reducible rfl)
            try simp only [List.getElem_toArray, List.getElem_cons_succ, List.getElem_cons_zero, Act.put, List.setIfInBounds_toArray, List.set_cons_zero, List.set_cons_succ]
            refine wpAnyH_take (i := 14) (v := ?_) rfl (by kernel_rfl) (by kernel_rfl) (by kernel_rfl) (fun _ _ _ h => h) (Or.inl ⟨by rfl, ?_⟩) (by assumption) ?_
            rotate_left
            · (intro w hSw; have q0 : w.cell? ⟨xb, 0, none⟩ = some (.string (bstr x.id)) := (hSw.cell (p := ⟨xb, 0, none⟩) HXq.out.lt).trans (HXq.out.cell 0); have q1 : w.cell? ⟨xb, 1, none⟩ = some (.string (bstr x.pre)) := (hSw.cell (p := ⟨xb, 1, none⟩) HXq.out.lt).trans (HXq.out.cell 1); have q2 : w.cell? ⟨xb, 2, none⟩ = some (.int .i64 x.frm) := (hSw.cell (p := ⟨xb, 2, none⟩) HXq.out.lt).trans (HXq.out.cell 2); have q3 : w.cell? ⟨xb, 3, none⟩ = some (.int .i64 x.to) := (hSw.cell (p := ⟨xb, 3, none⟩) HXq.out.lt).trans (HXq.out.cell 3); have q4 : w.cell? ⟨xb, 4, none⟩ = some (.int .i64 x.st) := (hSw.cell (p := ⟨xb, 4, none⟩) HXq.out.lt).trans (HXq.out.cell 4); have q5 : w.cell? ⟨xb, 5, none⟩ = some (.int .i64 x.en) := (hSw.cell (p := ⟨xb, 5, none⟩) HXq.out.lt).trans (HXq.out.cell 5); have q6 : w.cell? ⟨xb, 6, none⟩ = some (.int .i64 x.made) := (hSw.cell (p := ⟨xb, 6, none⟩) HXq.out.lt).trans (HXq.out.cell 6); have q7 : w.cell? ⟨xb, 7, none⟩ = some (.int .i64 x.kind) := (hSw.cell (p := ⟨xb, 7, none⟩) HXq.out.lt).trans (HXq.out.cell 7); have q8 : w.cell? ⟨xb, 8, none⟩ = some (.string (bstr x.team)) := (hSw.cell (p := ⟨xb, 8, none⟩) HXq.out.lt).trans (HXq.out.cell 8); go_simp; try with_reducible rfl)
            try simp only [List.getElem_toArray, List.getElem_cons_succ, List.getElem_cons_zero, Act.put, List.setIfInBounds_toArray, List.set_cons_zero, List.set_cons_succ]
            refine wpAnyH_take (i := 16) (v := ?_) rfl (by kernel_rfl) (by kernel_rfl) (by kernel_rfl) (fun _ _ _ h => h) (Or.inl ⟨by rfl, ?_⟩) (by assumption) ?_
            rotate_left
            · (intro w hSw; go_simp; try with_reducible rfl)
            try simp only [List.getElem_toArray, List.getElem_cons_succ, List.getElem_cons_zero, Act.put, List.setIfInBounds_toArray, List.set_cons_zero, List.set_cons_succ]
            refine wpAnyH_take (i := 17) (v := ?_) rfl (by kernel_rfl) (by kernel_rfl) (by kernel_rfl) (fun _ _ _ h => h) (Or.inl ⟨by rfl, ?_⟩) (by assumption) ?_
            rotate_left
            · (intro w hSw; have q0 : w.cell? ⟨xb, 5, none⟩ = some (.int .i64 x.en) := (hSw.cell (p := ⟨xb, 5, none⟩) HXq.out.lt).trans (HXq.out.cell 5); go_simp; try with_reducible rfl)
            try simp only [List.getElem_toArray, List.getElem_cons_succ, List.getElem_cons_zero, Act.put, List.setIfInBounds_toArray, List.set_cons_zero, List.set_cons_succ]
            refine wpAnyH_ready (rs := [15]) (by kernel_rfl) (by simp) ?_
            refine AllReadyH.cons rfl (fun K hK => ?_) AllReadyH.nil
            rw [if_pos (by rfl)]
            simp only [List.getElem_toArray, List.getElem_cons_succ, List.getElem_cons_zero]
            go_simp
            go_at_call 11
            refine (from_any x _).mono ?_
            rintro e w6 ⟨rfl, hbw6⟩
            have hhw6 := ext_trans hhw5 hbw6
            show K _ w6
            refine hK.out _ _ hhw6 (fun hHeld0 => ?_)
            clear hK K hHeld0 hbw6
            try simp only [List.getElem_toArray, List.getElem_cons_succ, List.getElem_cons_zero, Act.put, List.setIfInBounds_toArray, List.set_cons_zero, List.set_cons_succ]
            refine wpAnyH_take (i := 18) (v := .bool false) rfl (by kernel_rfl) (by kernel_rfl) (by kernel_rfl) (fun _ _ _ h => h) (Or.inl ⟨by rfl, ?_⟩) (by assumption) ?_
            · (intro w hSw; go_simp <;> (first | rfl | (rw [decide_eq_false ha]) | omega))
            try simp only [List.getElem_toArray, List.getElem_cons_succ, List.getElem_cons_zero, Act.put, List.setIfInBounds_toArray, List.set_cons_zero, List.set_cons_succ]
            refine wpAnyH_take (i := 19) (v := ?_) rfl (by kernel_rfl) (by kernel_rfl) (by kernel_rfl) (fun _ _ _ h => h) (Or.inl ⟨by rfl, ?_⟩) (by assumption) ?_
            rotate_left
            · (intro w hSw; go_simp; try with_reducible rfl)
            try simp only [List.getElem_toArray, List.getElem_cons_succ, List.getElem_cons_zero, Act.put, List.setIfInBounds_toArray, List.set_cons_zero, List.set_cons_succ]
            refine wpAnyH_done (by kernel_rfl) ?_ _
            have HBz := Lib.hid hhw6
            generalize w6 = wz at *
            have HXz := Lib.hid (HXq.out.same (same_below HBz.out) HXq.out.lt)
            have HOz := Lib.hid (own_below HOq.out HBz.out)
            have HBY := Lib.hid (ext_trans HBQ.out HBz.out)
            clear HXq HOq HBQ HBz
            go_wp2_with fail
            go_roundw
            case rel => first | exact ⟨m + 1, by omega, by go_num, Lib.hid (by rw [HS.out]; exact HOz.out), HBY⟩ | (repeat (apply Exists.intro); (refine And.intro ?_ ?_; rotate_left; (repeat' (first | exact rfl | apply And.intro)); exact ⟨m + 1, by omega, by go_num, Lib.hid (by rw [HS.out]; exact HOz.out), HBY⟩))
            case measure => simp [intOf]; omega
        · rw [if_neg (fun h => hn h.2.1), List.append_nil] at HS
          clear hp
          go_wp2_with fail
          clear c0 c1 c2 c3 c4 c5 c6 c7 c8
          generalize (wr.alloc (.cells #[.string (bstr x.id), .string (bstr x.pre), .int .i64 x.frm, .int .i64 x.to, .int .i64 x.st, .int .i64 x.en, .int .i64 x.made, .int .i64 x.kind, .string (bstr x.team)] 38)) = wa at *
          generalize wr.heap.size = xb at *
          refine wp_region_held_drew (S := fun w' => Below wa.heap.size wa w') (by kernel_rfl) (Below.drew (Below.refl _ _)) (fun hHeld0 => ?_)
          obtain ⟨wq, hwq⟩ : ∃ wq, wq = World.drew wa := ⟨_, rfl⟩
          have hbq : Below wa.heap.size wa wq := by rw [hwq]; exact Below.drew (Below.refl _ _)
          have HBQ := Lib.hid (ext_trans HBA.out hbq)
          have HXq := Lib.hid (HXA.out.same (same_below hbq) HXA.out.lt)
          have HOq := Lib.hid (own_below HOA.out hbq)
          rw [← hwq] at hHeld0 ⊢
          refine heldMonoI (S' := fun w' => Below wq.heap.size wq w') (fun w' h => ext_trans hbq h) _ _ _ _ ?_
          have hHeld : Below wq.heap.size wq wq := Below.refl _ _
          clear hHeld0 hbq hwq
          obtain ⟨adI, cI, eI, hadI, d0, d1, d2, d3, d4, d5, d6, d7, d8, _⟩ := rgt_at (Rp.ext _ H0.out HBQ.out) hi
          cases eI
          rw [HRI.out] at d0 d1 d2 d3 d4 d5 d6 d7 d8
          have hadJ : (ad.add (i * 9)).block < wq.heap.size := by rw [add_block]; exact hadI
          have hiL : (i : Int) < (l.length : Int) := by omega
          refine wpAnyH_take (i := 0) (v := ?_) rfl (by kernel_rfl) (by kernel_rfl) (by kernel_rfl) (fun _ _ _ h => h) (Or.inl ⟨by rfl, ?_⟩) (by assumption) ?_
          rotate_left
          · (intro w hSw; go_simp; try with_reducible rfl)
          try simp only [List.getElem_toArray, List.getElem_cons_succ, List.getElem_cons_zero, Act.put, List.setIfInBounds_toArray, List.set_cons_zero, List.set_cons_succ]
          refine wpAnyH_take (i := 1) (v := ?_) rfl (by kernel_rfl) (by kernel_rfl) (by kernel_rfl) (fun _ _ _ h => h) (Or.inl ⟨by rfl, ?_⟩) (by assumption) ?_
          rotate_left
          · (intro w hSw; go_simp; try with_reducible rfl)
          try simp only [List.getElem_toArray, List.getElem_cons_succ, List.getElem_cons_zero, Act.put, List.setIfInBounds_toArray, List.set_cons_zero, List.set_cons_succ]
          refine wpAnyH_take (i := 2) (v := ?_) rfl (by kernel_rfl) (by kernel_rfl) (by kernel_rfl) (fun _ _ _ h => h) (Or.inl ⟨by rfl, ?_⟩) (by assumption) ?_
          rotate_left
          · (intro w hSw; have q0 : w.cell? ⟨xb, 1, none⟩ = some (.string (bstr x.pre)) := (hSw.cell (p := ⟨xb, 1, none⟩) HXq.out.lt).trans (HXq.out.cell 1); go_simp; try with_reducible rfl)
          try simp only [List.getElem_toArray, List.getElem_cons_succ, List.getElem_cons_zero, Act.put, List.setIfInBounds_toArray, List.set_cons_zero, List.set_cons_succ]
          refine wpAnyH_ready (rs := [3]) (by kernel_rfl) (by simp) ?_
          refine AllReadyH.cons rfl (fun K hK => ?_) AllReadyH.nil
          rw [if_pos (by rfl)]
          simp only [List.getElem_toArray, List.getElem_cons_succ, List.getElem_cons_zero]
          go_simp
          go_at_call 24
          refine (hasPre_any key x.pre _ hk).mono ?_
          rintro e w3 ⟨rfl, hw⟩
          subst hw
          have hbw3 : Below w3.heap.size w3 w3 := Below.refl _ _
          rw [HP.out]
          have hhw3 := (Below.refl w3.heap.size w3)
          show K _ w3
          refine hK.out _ _ hhw3 (fun hHeld0 => ?_)
          clear hK K hHeld0 hbw3
          try simp only [List.getElem_toArray, List.getElem_cons_succ, List.getElem_cons_zero, Act.put, List.setIfInBounds_toArray, List.set_cons_zero, List.set_cons_succ]
          refine wpAnyH_take (i := 4) (v := ?_) rfl (by kernel_rfl) (by kernel_rfl) (by kernel_rfl) (fun _ _ _ h => h) (Or.inl ⟨by rfl, ?_⟩) (by assumption) ?_
          rotate_left
          · (intro w hSw; go_simp; try with_reducible rfl)
          try simp only [List.getElem_toArray, List.getElem_cons_succ, List.getElem_cons_zero, Act.put, List.setIfInBounds_toArray, List.set_cons_zero, List.set_cons_succ]
          refine wpAnyH_take (i := 5) (v := ?_) rfl (by kernel_rfl) (by kernel_rfl) (by kernel_rfl) (fun _ _ _ h => h) (Or.inl ⟨by rfl, ?_⟩) (by assumption) ?_
          rotate_left
          · (intro w hSw; have q0 : w.cell? ⟨xb, 0, none⟩ = some (.string (bstr x.id)) := (hSw.cell (p := ⟨xb, 0, none⟩) HXq.out.lt).trans (HXq.out.cell 0); have q1 : w.cell? ⟨xb, 1, none⟩ = some (.string (bstr x.pre)) := (hSw.cell (p := ⟨xb, 1, none⟩) HXq.out.lt).trans (HXq.out.cell 1); have q2 : w.cell? ⟨xb, 2, none⟩ = some (.int .i64 x.frm) := (hSw.cell (p := ⟨xb, 2, none⟩) HXq.out.lt).trans (HXq.out.cell 2); have q3 : w.cell? ⟨xb, 3, none⟩ = some (.int .i64 x.to) := (hSw.cell (p := ⟨xb, 3, none⟩) HXq.out.lt).trans (HXq.out.cell 3); have q4 : w.cell? ⟨xb, 4, none⟩ = some (.int .i64 x.st) := (hSw.cell (p := ⟨xb, 4, none⟩) HXq.out.lt).trans (HXq.out.cell 4); have q5 : w.cell? ⟨xb, 5, none⟩ = some (.int .i64 x.en) := (hSw.cell (p := ⟨xb, 5, none⟩) HXq.out.lt).trans (HXq.out.cell 5); have q6 : w.cell? ⟨xb, 6, none⟩ = some (.int .i64 x.made) := (hSw.cell (p := ⟨xb, 6, none⟩) HXq.out.lt).trans (HXq.out.cell 6); have q7 : w.cell? ⟨xb, 7, none⟩ = some (.int .i64 x.kind) := (hSw.cell (p := ⟨xb, 7, none⟩) HXq.out.lt).trans (HXq.out.cell 7); have q8 : w.cell? ⟨xb, 8, none⟩ = some (.string (bstr x.team)) := (hSw.cell (p := ⟨xb, 8, none⟩) HXq.out.lt).trans (HXq.out.cell 8); go_simp; try with_reducible rfl)
          try simp only [List.getElem_toArray, List.getElem_cons_succ, List.getElem_cons_zero, Act.put, List.setIfInBounds_toArray, List.set_cons_zero, List.set_cons_succ]
          refine wpAnyH_take (i := 6) (v := ?_) rfl (by kernel_rfl) (by kernel_rfl) (by kernel_rfl) (fun _ _ _ h => h) (Or.inl ⟨by rfl, ?_⟩) (by assumption) ?_
          rotate_left
          · (intro w hSw; go_simp; try with_reducible rfl)
          try simp only [List.getElem_toArray, List.getElem_cons_succ, List.getElem_cons_zero, Act.put, List.setIfInBounds_toArray, List.set_cons_zero, List.set_cons_succ]
          refine wpAnyH_take (i := 7) (v := ?_) rfl (by kernel_rfl) (by kernel_rfl) (by kernel_rfl) (fun _ _ _ h => h) (Or.inl ⟨by rfl, ?_⟩) (by assumption) ?_
          rotate_left
          · (intro w hSw; go_simp; try with_reducible rfl)
          try simp only [List.getElem_toArray, List.getElem_cons_succ, List.getElem_cons_zero, Act.put, List.setIfInBounds_toArray, List.set_cons_zero, List.set_cons_succ]
          refine wpAnyH_take (i := 8) (v := ?_) rfl (by kernel_rfl) (by kernel_rfl) (by kernel_rfl) (fun _ _ _ h => h) (Or.inl ⟨by rfl, ?_⟩) (by assumption) ?_
          rotate_left
          · (intro w hSw; go_simp; (try rw [if_pos (by omega)]); (try rw [Int.toNat_natCast]); try with_reducible rfl)
          try simp only [List.getElem_toArray, List.getElem_cons_succ, List.getElem_cons_zero, Act.put, List.setIfInBounds_toArray, List.set_cons_zero, List.set_cons_succ]
          refine wpAnyH_take (i := 9) (v := ?_) rfl (by kernel_rfl) (by kernel_rfl) (by kernel_rfl) (fun _ _ _ h => h) (Or.inl ⟨by rfl, ?_⟩) (by assumption) ?_
          rotate_left
          · (intro w hSw; have q0 : w.cell? (ad.add (i * 9)) = some (.string (bstr r.id)) := (hSw.cell (p := (ad.add (i * 9))) hadJ).trans d0; have q1 : w.cell? ⟨(ad.add (i * 9)).block, (ad.add (i * 9)).off + 1, none⟩ = some (.string (bstr r.pre)) := (hSw.cell (p := ⟨(ad.add (i * 9)).block, (ad.add (i * 9)).off + 1, none⟩) hadJ).trans d1; have q2 : w.cell? ⟨(ad.add (i * 9)).block, (ad.add (i * 9)).off + 2, none⟩ = some (.int .i64 r.frm) := (hSw.cell (p := ⟨(ad.add (i * 9)).block, (ad.add (i * 9)).off + 2, none⟩) hadJ).trans d2; have q3 : w.cell? ⟨(ad.add (i * 9)).block, (ad.add (i * 9)).off + 3, none⟩ = some (.int .i64 r.to) := (hSw.cell (p := ⟨(ad.add (i * 9)).block, (ad.add (i * 9)).off + 3, none⟩) hadJ).trans d3; have q4 : w.cell? ⟨(ad.add (i * 9)).block, (ad.add (i * 9)).off + 4, none⟩ = some (.int .i64 r.st) := (hSw.cell (p := ⟨(ad.add (i * 9)).block, (ad.add (i * 9)).off + 4, none⟩) hadJ).trans d4; have q5 : w.cell? ⟨(ad.add (i * 9)).block, (ad.add (i * 9)).off + 5, none⟩ = some (.int .i64 r.en) := (hSw.cell (p := ⟨(ad.add (i * 9)).block, (ad.add (i * 9)).off + 5, none⟩) hadJ).trans d5; have q6 : w.cell? ⟨(ad.add (i * 9)).block, (ad.add (i * 9)).off + 6, none⟩ = some (.int .i64 r.made) := (hSw.cell (p := ⟨(ad.add (i * 9)).block, (ad.add (i * 9)).off + 6, none⟩) hadJ).trans d6; have q7 : w.cell? ⟨(ad.add (i * 9)).block, (ad.add (i * 9)).off + 7, none⟩ = some (.int .i64 r.kind) := (hSw.cell (p := ⟨(ad.add (i * 9)).block, (ad.add (i * 9)).off + 7, none⟩) hadJ).trans d7; have q8 : w.cell? ⟨(ad.add (i * 9)).block, (ad.add (i * 9)).off + 8, none⟩ = some (.string (bstr r.team)) := (hSw.cell (p := ⟨(ad.add (i * 9)).block, (ad.add (i * 9)).off + 8, none⟩) hadJ).trans d8; go_simp; try with_reducible rfl)
          try simp only [List.getElem_toArray, List.getElem_cons_succ, List.getElem_cons_zero, Act.put, List.setIfInBounds_toArray, List.set_cons_zero, List.set_cons_succ]
          refine wpAnyH_ready (rs := [10]) (by kernel_rfl) (by simp) ?_
          refine AllReadyH.cons rfl (fun K hK => ?_) AllReadyH.nil
          rw [if_pos (by rfl)]
          simp only [List.getElem_toArray, List.getElem_cons_succ, List.getElem_cons_zero]
          go_simp
          go_at_call 25
          refine (near_any x r _).mono ?_
          rintro e w5 ⟨rfl, hbw5⟩
          have hhw5 := ext_trans (Below.refl w3.heap.size w3) hbw5
          show K _ w5
          refine hK.out _ _ hhw5 (fun hHeld0 => ?_)
          clear hK K hHeld0 hbw5
          try simp only [List.getElem_toArray, List.getElem_cons_succ, List.getElem_cons_zero, Act.put, List.setIfInBounds_toArray, List.set_cons_zero, List.set_cons_succ]
          refine wpAnyH_take (i := 11) (v := .bool false) rfl (by kernel_rfl) (by kernel_rfl) (by kernel_rfl) (fun _ _ _ h => h) (Or.inl ⟨by rfl, ?_⟩) (by assumption) ?_
          · (intro w hSw; go_simp <;> (first | rfl | (rw [decide_eq_false hn]) | omega))
          try simp only [List.getElem_toArray, List.getElem_cons_succ, List.getElem_cons_zero, Act.put, List.setIfInBounds_toArray, List.set_cons_zero, List.set_cons_succ]
          refine wpAnyH_take (i := 12) (v := ?_) rfl (by kernel_rfl) (by kernel_rfl) (by kernel_rfl) (fun _ _ _ h => h) (Or.inl ⟨by rfl, ?_⟩) (by assumption) ?_
          rotate_left
          · (intro w hSw; go_simp; try with_reducible rfl)
          try simp only [List.getElem_toArray, List.getElem_cons_succ, List.getElem_cons_zero, Act.put, List.setIfInBounds_toArray, List.set_cons_zero, List.set_cons_succ]
          refine wpAnyH_take (i := 13) (v := ?_) rfl (by kernel_rfl) (by kernel_rfl) (by kernel_rfl) (fun _ _ _ h => h) (Or.inl ⟨by rfl, ?_⟩) (by assumption) ?_
          rotate_left
          · (intro w hSw; go_simp; try with_reducible rfl)
          try simp only [List.getElem_toArray, List.getElem_cons_succ, List.getElem_cons_zero, Act.put, List.setIfInBounds_toArray, List.set_cons_zero, List.set_cons_succ]
          refine wpAnyH_take (i := 14) (v := undef) rfl (by kernel_rfl) (by kernel_rfl) (by kernel_rfl) (fun _ _ _ h => h) (Or.inr ⟨by rfl, rfl⟩) (by assumption) ?_
          try simp only [List.getElem_toArray, List.getElem_cons_succ, List.getElem_cons_zero, Act.put, List.setIfInBounds_toArray, List.set_cons_zero, List.set_cons_succ]
          refine wpAnyH_take (i := 15) (v := undef) rfl (by kernel_rfl) (by kernel_rfl) (by kernel_rfl) (fun _ _ _ h => h) (Or.inr ⟨by rfl, rfl⟩) (by assumption) ?_
          try simp only [List.getElem_toArray, List.getElem_cons_succ, List.getElem_cons_zero, Act.put, List.setIfInBounds_toArray, List.set_cons_zero, List.set_cons_succ]
          refine wpAnyH_take (i := 16) (v := undef) rfl (by kernel_rfl) (by kernel_rfl) (by kernel_rfl) (fun _ _ _ h => h) (Or.inr ⟨by rfl, rfl⟩) (by assumption) ?_
          try simp only [List.getElem_toArray, List.getElem_cons_succ, List.getElem_cons_zero, Act.put, List.setIfInBounds_toArray, List.set_cons_zero, List.set_cons_succ]
          refine wpAnyH_take (i := 17) (v := undef) rfl (by kernel_rfl) (by kernel_rfl) (by kernel_rfl) (fun _ _ _ h => h) (Or.inr ⟨by rfl, rfl⟩) (by assumption) ?_
          try simp only [List.getElem_toArray, List.getElem_cons_succ, List.getElem_cons_zero, Act.put, List.setIfInBounds_toArray, List.set_cons_zero, List.set_cons_succ]
          refine wpAnyH_take (i := 18) (v := undef) rfl (by kernel_rfl) (by kernel_rfl) (by kernel_rfl) (fun _ _ _ h => h) (Or.inr ⟨by rfl, rfl⟩) (by assumption) ?_
          try simp only [List.getElem_toArray, List.getElem_cons_succ, List.getElem_cons_zero, Act.put, List.setIfInBounds_toArray, List.set_cons_zero, List.set_cons_succ]
          refine wpAnyH_take (i := 19) (v := ?_) rfl (by kernel_rfl) (by kernel_rfl) (by kernel_rfl) (fun _ _ _ h => h) (Or.inl ⟨by rfl, ?_⟩) (by assumption) ?_
          rotate_left
          · (intro w hSw; go_simp; try with_reducible rfl)
          try simp only [List.getElem_toArray, List.getElem_cons_succ, List.getElem_cons_zero, Act.put, List.setIfInBounds_toArray, List.set_cons_zero, List.set_cons_succ]
          refine wpAnyH_done (by kernel_rfl) ?_ _
          have HBz := Lib.hid hhw5
          generalize w5 = wz at *
          have HXz := Lib.hid (HXq.out.same (same_below HBz.out) HXq.out.lt)
          have HOz := Lib.hid (own_below HOq.out HBz.out)
          have HBY := Lib.hid (ext_trans HBQ.out HBz.out)
          clear HXq HOq HBQ HBz
          go_wp2_with fail
          go_roundw
          case rel => first | exact ⟨m + 1, by omega, by go_num, Lib.hid (by rw [HS.out]; exact HOz.out), HBY⟩ | (repeat (apply Exists.intro); (refine And.intro ?_ ?_; rotate_left; (repeat' (first | exact rfl | apply And.intro)); exact ⟨m + 1, by omega, by go_num, Lib.hid (by rw [HS.out]; exact HOz.out), HBY⟩))
          case measure => simp [intOf]; omega
    · obtain rfl : m = l.length := by omega
      rw [List.take_length] at HO hco1 ⊢
      obtain ⟨adI, cI, eI, hadI, d0, d1, d2, d3, d4, d5, d6, d7, d8, _⟩ := rgt_at (Rp.ext _ H0.out HB.out) hi
      cases eI
      rw [HRI.out] at d0 d1 d2 d3 d4 d5 d6 d7 d8
      have hiL : (i : Int) < (l.length : Int) := by omega
      have HBF : Hid (∀ x ∈ beforeK l r key, x ∈ l) := Lib.hid (fun x hx => (List.mem_filter.1 hx).1)
      have hbl : (beforeK l r key).length ≤ 300 := by
        unfold beforeK
        exact Nat.le_trans (List.length_filter_le _ _) hl
      generalize hEQ : beforeK l r key = E at *
      have HEQ := Lib.hid hEQ
      clear hEQ
      have HRE := Lib.hid (rgts_read HO.out (fun s hs => HRK.out s (HBF.out s hs)))
      have HCV := Lib.hid (covered_any r _ E wr HRE.out hbl HRB.out (fun x hx => HLB.out x (HBF.out x hx)))
      clear HO HRE hco1 hco2 hsl
      go_wp2_with fail
      refine HCV.out.mono ?_
      rintro e w9 ⟨rfl, hb9⟩
      have HB9 := Lib.hid (ext_trans HB.out hb9)
      clear hb9 HCV
      go_wp2_with fail
      go_ret
      exact ⟨by rw [HEQ.out]; rfl, HB9.out⟩
end Go.Proofs.YtdljgjlkfihjdaaGreatDoor
