/-
  'Idle' of package rights.
-/
import Derived.Test.YtdljgjlkfihjdaaGreatDoorIdl
import Derived.Test.YtdljgjlkfihjdaaGreatDoorChkRights
namespace Go.Proofs.YtdljgjlkfihjdaaGreatDoor
open Go.RowKit
set_option linter.unusedVariables false
set_option linter.unusedSimpArgs false

noncomputable def idleOut (t : List Team) (l : List Rgt) : List Int := if rightsFault t l = 0 then idleIx l l.length else []
def IdlePost (t : List Team) (l : List Rgt) (w : World) (e : Ending) (w' : World) : Prop :=
  ∃ v, e = .returned (.tuple #[v, .int .i64 (rightsFault t l)]) ∧ (Rp.sl (Rp.int .i64)).ok w' (· < w'.heap.size) [v] (idleOut t l) ∧ Below w.heap.size w w'
set_option maxRecDepth 100000 in
set_option maxHeartbeats 16000000 in
theorem idleTop_any (vt : Value) (t : List Team) (v : Value) (l : List Rgt) (w : World) (ht : (Rp.sl teamRp).ok w (· < w.heap.size) [vt] t) (h0 : (Rp.sl rgtRp).ok w (· < w.heap.size) [v] l) :
    Calls Tryz.prog 4 #[vt, v] w (IdlePost t l w) := by
  obtain ⟨A, c, rfl, hlc, hc, _⟩ := Rp.sl_open h0
  unfold maxLen at hc
  have HCK := Lib.hid (checkRights_any vt t _ l w ht h0)
  have HI := Lib.hid h0
  clear ht h0
  go_enter Tryz.func4, Tryz.ntmps4
  go_wp2_with fail
  refine HCK.out.mono ?_
  rintro e w1 ⟨rfl, hb⟩
  have HB1 := Lib.hid hb
  have H0 := Lib.hid (Rp.ext _ HI.out hb)
  clear hb HI HCK
  by_cases hf : rightsFault t l = 0
  case neg =>
    have HPF : Hid (idleOut t l = []) := Lib.hid (if_neg hf)
    have HFE : Hid (IdlePost t l w (.returned (.tuple #[.slice none 0 0, .int .i64 (rightsFault t l)])) w1) := Lib.hid ⟨_, rfl, by rw [HPF.out]; exact Rp.sl_nil _ _ _, HB1.out⟩
    generalize rightsFault t l = f at *
    go_wp2_with fail
    go_ret2
    exact HFE.out
  have hg := (rights_good hf).2.2
  have hl := hg.len
  have HLB : Hid (∀ x ∈ l, RBd x) := Lib.hid (fun x hx => by
    obtain ⟨j, hj, rfl⟩ := List.mem_iff_getElem.1 hx
    exact rg_bd (hg.each j hj))
  have HF1 : Hid (idleOut t l = idleIx l l.length) := Lib.hid (if_pos hf)
  have HF0 := Lib.hid hf
  have HBT : Hid (∀ W : World, Below w1.heap.size w1 W → Below w.heap.size w W) := Lib.hid (fun _ h => ext_trans HB1.out h)
  have HI0 := Lib.hid (World.ownsRow_nil w1 w1.heap.size 3 1)
  rw [hf]
  clear hf hg
  go_wp2_with fail
  go_loopw [7, 20] (fun vo vi wr => ∃ k : Nat, k ≤ l.length ∧ vi = .int .i64 k ∧ Hid (wr.ownsRow w1.heap.size 3 1 vo (idleIx l k).length ((idleIx l k).map (.int .i64))) ∧ Hid (Below w1.heap.size w1 wr)) (fun _ vi _ => l.length - (intOf vi).toNat)
  case atStart => exact ⟨0, by omega, rfl, HI0, Below.refl _ _⟩
  case round =>
    clear HI0
    obtain ⟨k, hk, rfl, HO, HB⟩ := hrel
    obtain ⟨Ao, co, hvo, hco1, hco2, _⟩ := own_form HO.out
    subst hvo
    have hsl := idleIx_len l k
    by_cases hlt : k < l.length
    · obtain ⟨ad, c', e1, hadb, c0, c1, c2, c3, c4, c5, c6, c7, c8, hz⟩ := rgt_at (Rp.ext _ H0.out HB.out) hlt
      cases e1
      have HSY : Hid (idleB l l[k] = true → idleIx l (k + 1) = idleIx l k ++ [(k : Int)]) := Lib.hid (fun h => by rw [idleIx, getD_at _ _ hlt, if_pos h])
      have HSN : Hid (idleB l l[k] = false → idleIx l (k + 1) = idleIx l k) := Lib.hid (fun h => by rw [idleIx, getD_at _ _ hlt, if_neg (by rw [h]; decide)])
      obtain ⟨r, hri⟩ : ∃ r, l[k] = r := ⟨_, rfl⟩
      have HRI := Lib.hid hri
      have HCALL : Hid (∀ (key : List UInt8) (W : World), key.length ≤ 9223372036854775807 → Below w1.heap.size w1 W → Calls Tryz.prog 12 #[.slice (some ad) l.length c, .int .i64 (k : Int), .string (bstr key)] W fun e w' => e = .returned (.bool (covB r (beforeK l r key))) ∧ Below W.heap.size W w') := Lib.hid (fun key W hkl hbw => idle_any _ l k r key W (Rp.ext _ H0.out hbw) hl hlt hri HLB.out hkl)
      have hpl : r.pre.length ≤ 9223372036854775807 := by rw [← hri]; exact hz.2.1
      rw [hri] at c0 c1 c2 c3 c4 c5 c6 c7 c8 HSY HSN
      clear hri hz HRI
      generalize idleIx l k = E at *
      have hal := (Below.refl wr.heap.size wr).alloc (Nat.le_refl _) (.cells #[.string (bstr r.id), .string (bstr r.pre), .int .i64 r.frm, .int .i64 r.to, .int .i64 r.st, .int .i64 r.en, .int .i64 r.made, .int .i64 r.kind, .string (bstr r.team)] 38)
      have HBA := Lib.hid (ext_trans HB.out hal)
      have HOA := Lib.hid (own_below HO.out hal)
      have HXA : Hid (Blk (wr.alloc (.cells #[.string (bstr r.id), .string (bstr r.pre), .int .i64 r.frm, .int .i64 r.to, .int .i64 r.st, .int .i64 r.en, .int .i64 r.made, .int .i64 r.kind, .string (bstr r.team)] 38)) wr.heap.size 38 (rgtCells r)) := Lib.hid (Blk.new wr 38 (rgtCells r))
      have hmL : (k : Int) < (l.length : Int) := by omega
      clear hal HO HB hadb
      go_wp2_with fail
      clear c0 c1 c2 c3 c4 c5 c6 c7 c8
      generalize (wr.alloc (.cells #[.string (bstr r.id), .string (bstr r.pre), .int .i64 r.frm, .int .i64 r.to, .int .i64 r.st, .int .i64 r.en, .int .i64 r.made, .int .i64 r.kind, .string (bstr r.team)] 38)) = wa at *
      generalize wr.heap.size = xb at *
      by_cases hpast : r.en ≤ fromI r
      · have HID := Lib.hid (idle_past (l := l) hpast)
        refine wp_region_held_drew (S := fun w' => Below wa.heap.size wa w') (by kernel_rfl) (Below.drew (Below.refl _ _)) (fun hHeld0 => ?_)
        obtain ⟨wq, hwq⟩ : ∃ wq, wq = World.drew wa := ⟨_, rfl⟩
        have hbq : Below wa.heap.size wa wq := by rw [hwq]; exact Below.drew (Below.refl _ _)
        have HBQ := Lib.hid hbq
        have HXq := Lib.hid (HXA.out.same (same_below hbq) HXA.out.lt)
        rw [← hwq] at hHeld0 ⊢
        refine heldMonoI (S' := fun w' => Below wq.heap.size wq w') (fun w' h => ext_trans hbq h) _ _ _ _ ?_
        have hHeld : Below wq.heap.size wq wq := Below.refl _ _
        clear hHeld0 hbq hwq
        refine wpAnyH_take (i := 0) (v := ?_) rfl (by kernel_rfl) (by kernel_rfl) (by kernel_rfl) (fun _ _ _ h => h) (Or.inl ⟨by rfl, ?_⟩) (by assumption) ?_
        rotate_left
        · (intro w hSw; have q0 : w.cell? ⟨xb, 0, none⟩ = some (.string (bstr r.id)) := (hSw.cell (p := ⟨xb, 0, none⟩) HXq.out.lt).trans (HXq.out.cell 0); have q1 : w.cell? ⟨xb, 1, none⟩ = some (.string (bstr r.pre)) := (hSw.cell (p := ⟨xb, 1, none⟩) HXq.out.lt).trans (HXq.out.cell 1); have q2 : w.cell? ⟨xb, 2, none⟩ = some (.int .i64 r.frm) := (hSw.cell (p := ⟨xb, 2, none⟩) HXq.out.lt).trans (HXq.out.cell 2); have q3 : w.cell? ⟨xb, 3, none⟩ = some (.int .i64 r.to) := (hSw.cell (p := ⟨xb, 3, none⟩) HXq.out.lt).trans (HXq.out.cell 3); have q4 : w.cell? ⟨xb, 4, none⟩ = some (.int .i64 r.st) := (hSw.cell (p := ⟨xb, 4, none⟩) HXq.out.lt).trans (HXq.out.cell 4); have q5 : w.cell? ⟨xb, 5, none⟩ = some (.int .i64 r.en) := (hSw.cell (p := ⟨xb, 5, none⟩) HXq.out.lt).trans (HXq.out.cell 5); have q6 : w.cell? ⟨xb, 6, none⟩ = some (.int .i64 r.made) := (hSw.cell (p := ⟨xb, 6, none⟩) HXq.out.lt).trans (HXq.out.cell 6); have q7 : w.cell? ⟨xb, 7, none⟩ = some (.int .i64 r.kind) := (hSw.cell (p := ⟨xb, 7, none⟩) HXq.out.lt).trans (HXq.out.cell 7); have q8 : w.cell? ⟨xb, 8, none⟩ = some (.string (bstr r.team)) := (hSw.cell (p := ⟨xb, 8, none⟩) HXq.out.lt).trans (HXq.out.cell 8); go_simp; try with_reducible rfl)
        try simp only [List.getElem_toArray, List.getElem_cons_succ, List.getElem_cons_zero, Act.put, List.setIfInBounds_toArray, List.set_cons_zero, List.set_cons_succ]
        refine wpAnyH_take (i := 2) (v := ?_) rfl (by kernel_rfl) (by kernel_rfl) (by kernel_rfl) (fun _ _ _ h => h) (Or.inl ⟨by rfl, ?_⟩) (by assumption) ?_
        rotate_left
        · (intro w hSw; go_simp; try with_reducible rfl)
        try simp only [List.getElem_toArray, List.getElem_cons_succ, List.getElem_cons_zero, Act.put, List.setIfInBounds_toArray, List.set_cons_zero, List.set_cons_succ]
        refine wpAnyH_take (i := 3) (v := ?_) rfl (by kernel_rfl) (by kernel_rfl) (by kernel_rfl) (fun _ _ _ h => h) (Or.inl ⟨by rfl, ?_⟩) (by assumption) ?_
        rotate_left
        · (intro w hSw; have q0 : w.cell? ⟨xb, 5, none⟩ = some (.int .i64 r.en) := (hSw.cell (p := ⟨xb, 5, none⟩) HXq.out.lt).trans (HXq.out.cell 5); go_simp; try with_reducible rfl)
        try simp only [List.getElem_toArray, List.getElem_cons_succ, List.getElem_cons_zero, Act.put, List.setIfInBounds_toArray, List.set_cons_zero, List.set_cons_succ]
        refine wpAnyH_ready (rs := [1]) (by kernel_rfl) (by simp) ?_
        refine AllReadyH.cons rfl (fun K hK => ?_) AllReadyH.nil
        rw [if_pos (by rfl)]
        simp only [List.getElem_toArray, List.getElem_cons_succ, List.getElem_cons_zero]
        go_simp
        go_at_call 11
        refine (from_any r _).mono ?_
        rintro e w6 ⟨rfl, hbw6⟩
        have hhw6 := ext_trans hHeld hbw6
        show K _ w6
        refine hK.out _ _ hhw6 (fun hHeld0 => ?_)
        clear hK K hHeld0 hbw6
        try simp only [List.getElem_toArray, List.getElem_cons_succ, List.getElem_cons_zero, Act.put, List.setIfInBounds_toArray, List.set_cons_zero, List.set_cons_succ]
        refine wpAnyH_take (i := 4) (v := .bool true) rfl (by kernel_rfl) (by kernel_rfl) (by kernel_rfl) (fun _ _ _ h => h) (Or.inl ⟨by rfl, ?_⟩) (by assumption) ?_
        · (intro w hSw; go_simp <;> (first | rfl | (rw [decide_eq_true hpast]) | omega))
        try simp only [List.getElem_toArray, List.getElem_cons_succ, List.getElem_cons_zero, Act.put, List.setIfInBounds_toArray, List.set_cons_zero, List.set_cons_succ]
        refine wpAnyH_take (i := 5) (v := ?_) rfl (by kernel_rfl) (by kernel_rfl) (by kernel_rfl) (fun _ _ _ h => h) (Or.inl ⟨by rfl, ?_⟩) (by assumption) ?_
        rotate_left
        · (intro w hSw; go_simp; try with_reducible rfl)
        try simp only [List.getElem_toArray, List.getElem_cons_succ, List.getElem_cons_zero, Act.put, List.setIfInBounds_toArray, List.set_cons_zero, List.set_cons_succ]
        refine wpAnyH_done (by kernel_rfl) ?_ _
        have HBR := Lib.hid (ext_trans HBQ.out hhw6)
        clear HXq HBQ hHeld hhw6
        generalize w6 = wz at *
        clear hpast
        have HOZ := Lib.hid (own_below HOA.out HBR.out)
        have HBZ := Lib.hid (ext_trans HBA.out HBR.out)
        have HSX := Lib.hid (HSY.out HID.out)
        clear HSY HSN HID
        go_wp2_with (at_builtin; go_must (refine app_new (w := wz) rfl (.tmp 55) (.tmp 57) 26 rfl 3 (.int .i64 0) 1 8 Tryz.underlying26 int_info rfl (by decide) (m := 1) [.int .i64 (k : Int)] HOZ.out HBZ.out.size rfl (by first | rfl | (rw [World.size_alloc]; rfl)) rfl (by decide) (by simp [Value.oneCell']) (by unfold maxLen; omega) (by omega) ?_); intro g8 c8' w8 HO8 HG8 HE8 HL8)
        have HB8 := Lib.hid (HE8.out _ HBZ.out)
        go_roundw
        case rel => first | exact ⟨k + 1, by omega, by go_num, Lib.hid (by rw [HSX.out, List.length_append, List.map_append]; exact HO8.out), HB8⟩ | (repeat (apply Exists.intro); (refine And.intro ?_ ?_; rotate_left; (repeat' (first | exact rfl | apply And.intro)); exact ⟨k + 1, by omega, by go_num, Lib.hid (by rw [HSX.out, List.length_append, List.map_append]; exact HO8.out), HB8⟩))
        case measure => simp [intOf]; omega
      · have hpast' : ¬ r.en ≤ fromI r := hpast
        refine wp_region_held_drew (S := fun w' => Below wa.heap.size wa w') (by kernel_rfl) (Below.drew (Below.refl _ _)) (fun hHeld0 => ?_)
        obtain ⟨wq, hwq⟩ : ∃ wq, wq = World.drew wa := ⟨_, rfl⟩
        have hbq : Below wa.heap.size wa wq := by rw [hwq]; exact Below.drew (Below.refl _ _)
        have HBQ := Lib.hid hbq
        have HXq := Lib.hid (HXA.out.same (same_below hbq) HXA.out.lt)
        rw [← hwq] at hHeld0 ⊢
        refine heldMonoI (S' := fun w' => Below wq.heap.size wq w') (fun w' h => ext_trans hbq h) _ _ _ _ ?_
        have hHeld : Below wq.heap.size wq wq := Below.refl _ _
        clear hHeld0 hbq hwq
        refine wpAnyH_take (i := 0) (v := ?_) rfl (by kernel_rfl) (by kernel_rfl) (by kernel_rfl) (fun _ _ _ h => h) (Or.inl ⟨by rfl, ?_⟩) (by assumption) ?_
        rotate_left
        · (intro w hSw; have q0 : w.cell? ⟨xb, 0, none⟩ = some (.string (bstr r.id)) := (hSw.cell (p := ⟨xb, 0, none⟩) HXq.out.lt).trans (HXq.out.cell 0); have q1 : w.cell? ⟨xb, 1, none⟩ = some (.string (bstr r.pre)) := (hSw.cell (p := ⟨xb, 1, none⟩) HXq.out.lt).trans (HXq.out.cell 1); have q2 : w.cell? ⟨xb, 2, none⟩ = some (.int .i64 r.frm) := (hSw.cell (p := ⟨xb, 2, none⟩) HXq.out.lt).trans (HXq.out.cell 2); have q3 : w.cell? ⟨xb, 3, none⟩ = some (.int .i64 r.to) := (hSw.cell (p := ⟨xb, 3, none⟩) HXq.out.lt).trans (HXq.out.cell 3); have q4 : w.cell? ⟨xb, 4, none⟩ = some (.int .i64 r.st) := (hSw.cell (p := ⟨xb, 4, none⟩) HXq.out.lt).trans (HXq.out.cell 4); have q5 : w.cell? ⟨xb, 5, none⟩ = some (.int .i64 r.en) := (hSw.cell (p := ⟨xb, 5, none⟩) HXq.out.lt).trans (HXq.out.cell 5); have q6 : w.cell? ⟨xb, 6, none⟩ = some (.int .i64 r.made) := (hSw.cell (p := ⟨xb, 6, none⟩) HXq.out.lt).trans (HXq.out.cell 6); have q7 : w.cell? ⟨xb, 7, none⟩ = some (.int .i64 r.kind) := (hSw.cell (p := ⟨xb, 7, none⟩) HXq.out.lt).trans (HXq.out.cell 7); have q8 : w.cell? ⟨xb, 8, none⟩ = some (.string (bstr r.team)) := (hSw.cell (p := ⟨xb, 8, none⟩) HXq.out.lt).trans (HXq.out.cell 8); go_simp; try with_reducible rfl)
        try simp only [List.getElem_toArray, List.getElem_cons_succ, List.getElem_cons_zero, Act.put, List.setIfInBounds_toArray, List.set_cons_zero, List.set_cons_succ]
        refine wpAnyH_take (i := 2) (v := ?_) rfl (by kernel_rfl) (by kernel_rfl) (by kernel_rfl) (fun _ _ _ h => h) (Or.inl ⟨by rfl, ?_⟩) (by assumption) ?_
        rotate_left
        · (intro w hSw; go_simp; try with_reducible rfl)
        try simp only [List.getElem_toArray, List.getElem_cons_succ, List.getElem_cons_zero, Act.put, List.setIfInBounds_toArray, List.set_cons_zero, List.set_cons_succ]
        refine wpAnyH_take (i := 3) (v := ?_) rfl (by kernel_rfl) (by kernel_rfl) (by kernel_rfl) (fun _ _ _ h => h) (Or.inl ⟨by rfl, ?_⟩) (by assumption) ?_
        rotate_left
        · (intro w hSw; have q0 : w.cell? ⟨xb, 5, none⟩ = some (.int .i64 r.en) := (hSw.cell (p := ⟨xb, 5, none⟩) HXq.out.lt).trans (HXq.out.cell 5); go_simp; try with_reducible rfl)
        try simp only [List.getElem_toArray, List.getElem_cons_succ, List.getElem_cons_zero, Act.put, List.setIfInBounds_toArray, List.set_cons_zero, List.set_cons_succ]
        refine wpAnyH_ready (rs := [1]) (by kernel_rfl) (by simp) ?_
        refine AllReadyH.cons rfl (fun K hK => ?_) AllReadyH.nil
        rw [if_pos (by rfl)]
        simp only [List.getElem_toArray, List.getElem_cons_succ, List.getElem_cons_zero]
        go_simp
        go_at_call 11
        refine (from_any r _).mono ?_
        rintro e w6 ⟨rfl, hbw6⟩
        have hhw6 := ext_trans hHeld hbw6
        show K _ w6
        refine hK.out _ _ hhw6 (fun hHeld0 => ?_)
        clear hK K hHeld0 hbw6
        try simp only [List.getElem_toArray, List.getElem_cons_succ, List.getElem_cons_zero, Act.put, List.setIfInBounds_toArray, List.set_cons_zero, List.set_cons_succ]
        refine wpAnyH_take (i := 4) (v := .bool false) rfl (by kernel_rfl) (by kernel_rfl) (by kernel_rfl) (fun _ _ _ h => h) (Or.inl ⟨by rfl, ?_⟩) (by assumption) ?_
        · (intro w hSw; go_simp <;> (first | rfl | (rw [decide_eq_false hpast]) | omega))
        try simp only [List.getElem_toArray, List.getElem_cons_succ, List.getElem_cons_zero, Act.put, List.setIfInBounds_toArray, List.set_cons_zero, List.set_cons_succ]
        refine wpAnyH_take (i := 5) (v := ?_) rfl (by kernel_rfl) (by kernel_rfl) (by kernel_rfl) (fun _ _ _ h => h) (Or.inl ⟨by rfl, ?_⟩) (by assumption) ?_
        rotate_left
        · (intro w hSw; go_simp; try with_reducible rfl)
        try simp only [List.getElem_toArray, List.getElem_cons_succ, List.getElem_cons_zero, Act.put, List.setIfInBounds_toArray, List.set_cons_zero, List.set_cons_succ]
        refine wpAnyH_done (by kernel_rfl) ?_ _
        have HBR := Lib.hid (ext_trans HBQ.out hhw6)
        clear HXq HBQ hHeld hhw6
        generalize w6 = wz at *
        clear hpast hpast'
        have HXz := Lib.hid (HXA.out.same (same_below HBR.out) HXA.out.lt)
        have p1 : wz.cell? ⟨xb, 1, none⟩ = some (.string (bstr r.pre)) := HXz.out.cell 1
        by_cases hpre : r.pre = []
        · have hem : (bstr r.pre).toList.isEmpty = true := by rw [bstr_toList, hpre]; rfl
          have HIA := Lib.hid (idle_all (l := l) hpre)
          clear hpre
          go_wp2_with fail
          go_loopw [10, 11] (fun vb vi wr => ∃ j : Nat, j ≤ 94 ∧ vb = .bool (idleTo l r j) ∧ vi = .int .u8 (33 + (j : Int)) ∧ Hid (Below wz.heap.size wz wr)) (fun _ vi _ => 200 - (intOf vi).toNat)
          case atStart => exact ⟨0, by omega, rfl, rfl, Below.refl _ _⟩
          case round =>
            obtain ⟨j, hj, rfl, rfl, HBj⟩ := hrel
            have HBJ := Lib.hid (ext_trans HBR.out HBj.out)
            by_cases hlj : j < 94
            · have hji : (33 + (j : Int)) ≤ 126 := by omega
              have hu8 : ((UInt8.ofNat (33 + j)).toNat : Int) = 33 + (j : Int) := by
                rw [UInt8.toNat_ofNat_of_lt' (by show 33 + j < 256; omega)]; omega
              have hw8 : IntKind.u8.wrap (33 + (j : Int) + 1) = 33 + (j : Int) + 1 := by simp [IntKind.wrap, IntKind.bits, IntKind.signed]; omega
              have HT1 : Hid (idleTo l r (j + 1) = (idleTo l r j && covB r (beforeK l r [UInt8.ofNat (33 + j)]))) := Lib.hid rfl
              cases hto : idleTo l r j with
              | false =>
                rw [hto, Bool.false_and] at HT1
                clear hto hu8
                go_wp2_with fail
                go_roundw
                case rel => exact ⟨j + 1, by omega, by rw [HT1.out], by go_num, HBj⟩
                case measure => simp [intOf]; omega
              | true =>
                rw [hto, Bool.true_and] at HT1
                have hal2 := (Below.refl wr.heap.size wr).alloc (Nat.le_refl _) (.cells #[.int .u8 (33 + (j : Int))] 5)
                have hrd : (Rp.sl Rp.u8).ok (wr.alloc (.cells #[.int .u8 (33 + (j : Int))] 5)) (· < (wr.alloc (.cells #[.int .u8 (33 + (j : Int))] 5)).heap.size) [.slice (some ⟨wr.heap.size, 0, none⟩) 1 1] [UInt8.ofNat (33 + j)] := by
                  have h := World.ownsRow_lit (base := wr.heap.size) (e := 5) (size := 1) wr #[.int .u8 (33 + (j : Int))] 1 (Nat.le_refl _) (by decide) rfl
                  refine Rp.u8_own (B := wr.heap.size) (e := 5) (n := 1) ?_ (fun g hg => (h.lt g hg).2)
                  rw [List.map_cons, List.map_nil, hu8]
                  exact h
                have hcb := conv_bytes (P := Tryz.prog) 41 5 9 Tryz.underlying41 Tryz.underlying5 Tryz.underlying9 hrd
                have HB2 := Lib.hid (ext_trans HBj.out hal2)
                have HBW := Lib.hid (ext_trans HBA.out (ext_trans HBR.out HB2.out))
                clear hal2 hrd hu8 hto
                have HC1 := Lib.hid (fun W hb => HCALL.out [UInt8.ofNat (33 + j)] W (by show 1 ≤ _; omega) hb)
                generalize covB r (beforeK l r [UInt8.ofNat (33 + j)]) = cv at *
                generalize UInt8.ofNat (33 + j) = bk at *
                go_wp2_with fail
                refine (HC1.out _ HBW.out).mono ?_
                rintro e w9 ⟨rfl, hb9⟩
                have HB9 := Lib.hid (ext_trans HB2.out hb9)
                clear hb9 hcb
                go_wp2_with fail
                go_roundw
                case rel => exact ⟨j + 1, by omega, by rw [HT1.out], by go_num, HB9⟩
                case measure => simp [intOf]; omega
            · obtain rfl : j = 94 := by omega
              rw [← HIA.out]
              rw [show (33 + ((94 : Nat) : Int)) = 127 from rfl]
              cases hid : idleB l r with
              | true =>
                have HID := Lib.hid hid
                clear hid
                have HOZ := Lib.hid (own_below HOA.out HBJ.out)
                have HBZ := Lib.hid (ext_trans HBA.out HBJ.out)
                have HSX := Lib.hid (HSY.out HID.out)
                clear HSY HSN HID
                go_wp2_with (at_builtin; go_must (refine app_new (w := wr) rfl (.tmp 55) (.tmp 57) 26 rfl 3 (.int .i64 0) 1 8 Tryz.underlying26 int_info rfl (by decide) (m := 1) [.int .i64 (k : Int)] HOZ.out HBZ.out.size rfl (by first | rfl | (rw [World.size_alloc]; rfl)) rfl (by decide) (by simp [Value.oneCell']) (by unfold maxLen; omega) (by omega) ?_); intro g8 c8' w8 HO8 HG8 HE8 HL8)
                have HB8 := Lib.hid (HE8.out _ HBZ.out)
                go_roundw
                case rel => first | exact ⟨k + 1, by omega, by go_num, Lib.hid (by rw [HSX.out, List.length_append, List.map_append]; exact HO8.out), HB8⟩ | (repeat (apply Exists.intro); (refine And.intro ?_ ?_; rotate_left; (repeat' (first | exact rfl | apply And.intro)); exact ⟨k + 1, by omega, by go_num, Lib.hid (by rw [HSX.out, List.length_append, List.map_append]; exact HO8.out), HB8⟩))
                case measure => simp [intOf]; omega
              | false =>
                have HID := Lib.hid hid
                clear hid
                have HOZ := Lib.hid (own_below HOA.out HBJ.out)
                have HBZ := Lib.hid (ext_trans HBA.out HBJ.out)
                have HSX := Lib.hid (HSN.out HID.out)
                clear HSY HSN HID
                go_wp2_with fail
                go_roundw
                case rel => first | exact ⟨k + 1, by omega, by go_num, Lib.hid (by rw [HSX.out]; exact HOZ.out), HBZ⟩ | (repeat (apply Exists.intro); (refine And.intro ?_ ?_; rotate_left; (repeat' (first | exact rfl | apply And.intro)); exact ⟨k + 1, by omega, by go_num, Lib.hid (by rw [HSX.out]; exact HOZ.out), HBZ⟩))
                case measure => simp [intOf]; omega
        · have hem : (bstr r.pre).toList.isEmpty = false := by
            rw [bstr_toList]; cases hq : r.pre with | nil => exact absurd hq hpre | cons _ _ => rfl
          have HIP := Lib.hid (idle_pre (l := l) hpre)
          clear hpre
          go_wp2_with fail
          refine (HCALL.out r.pre _ hpl (ext_trans HBA.out HBR.out)).mono ?_
          rintro e w9 ⟨rfl, hb9⟩
          have HB9 := Lib.hid (ext_trans HBR.out hb9)
          clear hb9
          rw [← HIP.out]
          cases hid : idleB l r with
          | true =>
            have HID := Lib.hid hid
            clear hid
            have HOZ := Lib.hid (own_below HOA.out HB9.out)
            have HBZ := Lib.hid (ext_trans HBA.out HB9.out)
            have HSX := Lib.hid (HSY.out HID.out)
            clear HSY HSN HID
            go_wp2_with (at_builtin; go_must (refine app_new (w := w9) rfl (.tmp 55) (.tmp 57) 26 rfl 3 (.int .i64 0) 1 8 Tryz.underlying26 int_info rfl (by decide) (m := 1) [.int .i64 (k : Int)] HOZ.out HBZ.out.size rfl (by first | rfl | (rw [World.size_alloc]; rfl)) rfl (by decide) (by simp [Value.oneCell']) (by unfold maxLen; omega) (by omega) ?_); intro g8 c8' w8 HO8 HG8 HE8 HL8)
            have HB8 := Lib.hid (HE8.out _ HBZ.out)
            go_roundw
            case rel => first | exact ⟨k + 1, by omega, by go_num, Lib.hid (by rw [HSX.out, List.length_append, List.map_append]; exact HO8.out), HB8⟩ | (repeat (apply Exists.intro); (refine And.intro ?_ ?_; rotate_left; (repeat' (first | exact rfl | apply And.intro)); exact ⟨k + 1, by omega, by go_num, Lib.hid (by rw [HSX.out, List.length_append, List.map_append]; exact HO8.out), HB8⟩))
            case measure => simp [intOf]; omega
          | false =>
            have HID := Lib.hid hid
            clear hid
            have HOZ := Lib.hid (own_below HOA.out HB9.out)
            have HBZ := Lib.hid (ext_trans HBA.out HB9.out)
            have HSX := Lib.hid (HSN.out HID.out)
            clear HSY HSN HID
            go_wp2_with fail
            go_roundw
            case rel => first | exact ⟨k + 1, by omega, by go_num, Lib.hid (by rw [HSX.out]; exact HOZ.out), HBZ⟩ | (repeat (apply Exists.intro); (refine And.intro ?_ ?_; rotate_left; (repeat' (first | exact rfl | apply And.intro)); exact ⟨k + 1, by omega, by go_num, Lib.hid (by rw [HSX.out]; exact HOZ.out), HBZ⟩))
            case measure => simp [intOf]; omega
    · obtain rfl : k = l.length := by omega
      go_wp2_with fail
      go_ret2
      have ho := HO.out
      exact ⟨_, by rw [HF0.out]; rfl, by rw [HF1.out]; exact Rp.int_own ho (idleIx_wf l _ (by omega)) (fun g hg => (ho.lt g hg).2), HBT.out _ HB.out⟩
end Go.Proofs.YtdljgjlkfihjdaaGreatDoor
