/-
  'Takedowns' of package rights.
-/
import Derived.Test.YtgbpnghgcffkbaaDoorStAll
import Derived.Test.YtgbpnghgcffkbaaDoorCloneR
import Derived.Deep.Onto
namespace Go.Proofs.YtgbpnghgcffkbaaDoor
open Go.RowKit
set_option linter.unusedVariables false
set_option linter.unusedSimpArgs false

def TdPost (l : List App) (hold : Int) (w : World) (e : Ending) (w' : World) : Prop :=
  ∃ v, e = .returned (.tuple #[v, .int .i64 (tdF l hold)]) ∧ w'.ownsRow w.heap.size 32 9 v (tdV l hold).length ((tdV l hold).flatMap rgtCells) ∧ Below w.heap.size w w'
theorem td_bad {l : List App} {hold f : Int} {w w' : World} (hf : tdF l hold = f) (hn : f ≠ 0) (hb : Below w.heap.size w w') : TdPost l hold w (.returned (.tuple #[.slice none 0 0, .int .i64 f])) w' :=
  ⟨_, by rw [hf], by rw [tdV_bad hf hn]; exact World.ownsRow_nil _ _ _ _, hb⟩
theorem tdAt_next {rs : List Req} {hold : Int} {k : Nat} (h : k < rs.length) : tdAt rs hold (k + 1) = tdAt rs hold k ++ tdOne rs[k] hold := by
  rw [tdAt, getD_at _ _ h]
set_option maxRecDepth 100000 in
set_option maxHeartbeats 8000000 in
theorem takedowns_any (v : Value) (l : List App) (hold : Int) (w : World) (h0 : (Rp.sl appRp).ok w (· < w.heap.size) [v] l) :
    Calls Tryd.prog 7 #[v, .int .i64 hold] w (TdPost l hold w) := by
  have H0 := Lib.hid h0
  clear h0
  go_enter Tryd.func7, Tryd.ntmps7
  go_wp2_with fail
  refine (follow_any v l 253402300799 w H0.out).mono ?_
  rintro e w1 ⟨vr, hs, rfl, hR, hb⟩
  have HB1 := Lib.hid hb
  have HR1 := Lib.hid hR
  clear hb hR
  by_cases ha : appsFault l = 0
  case neg =>
    have HF : Hid (tdF l hold = appsFault l) := Lib.hid (tdF_1 ha)
    have HN := Lib.hid ha
    have hn : (appsFault l != 0) = true := by simpa using ha
    clear ha
    generalize appsFault l = ff at *
    go_wp2_with fail
    go_ret2
    exact td_bad HF.out HN.out HB1.out
  have HA := Lib.hid ha
  rw [ha]
  clear ha
  go_wp2_with fail
  refine (gwithin_any hold 0 1000000000 w1).mono ?_
  rintro e w1 ⟨rfl, rfl⟩
  cases q3 : withinB hold 0 1000000000 with
  | false =>
    have HF : Hid (tdF l hold = 1) := Lib.hid (tdF_2 HA.out q3)
    clear q3
    go_wp2_with fail
    go_ret2
    exact td_bad HF.out (by decide) HB1.out
  | true =>
  have HHO : Hid (0 ≤ hold ∧ hold ≤ 1000000000) := Lib.hid (of_decide_eq_true q3)
  have HIN := Lib.hid (now_in (at_ := 253402300799) HA.out)
  have hln := folV_len (at_ := 253402300799) HA.out
  have HF3 := Lib.hid (tdF_3 HA.out q3)
  have HF4 := Lib.hid (tdF_4 HA.out q3)
  have HAL : Hid (tdAll l hold = tdAt (folV l 253402300799) hold (folV l 253402300799).length) := Lib.hid rfl
  clear q3
  generalize hta : tdAll l hold = all at *
  have HTA := Lib.hid hta
  clear hta
  generalize hrs : folV l 253402300799 = rs at *
  clear hrs
  have hlr := HR1.out.len
  obtain ⟨B, hB⟩ : ∃ B, B = w.heap.size := ⟨_, rfl⟩
  have HBE := Lib.hid hB
  rw [← hB] at HR1
  clear hB
  obtain ⟨vp, vc, rfl⟩ := RowR.shape HR1.out
  go_wp2_with fail
  go_loopw [8, 25] (fun vo vi wr => ∃ (k : Nat) (ao : Value), vo = ao ∧ k ≤ rs.length ∧ vi = .int .i64 k ∧ Hid (wr.ownsRow w1.heap.size 32 9 ao (tdAt rs hold k).length ((tdAt rs hold k).flatMap rgtCells)) ∧ Hid (Below w1.heap.size w1 wr)) (fun _ vi _ => rs.length - (intOf vi).toNat)
  case atStart => exact ⟨0, _, rfl, by omega, rfl, Lib.hid (World.ownsRow_nil _ _ _ _), Below.refl _ _⟩
  case round =>
    obtain ⟨k, vo, rfl, hk, rfl, HO, HB⟩ := hrel
    have HBW := Lib.hid (HB1.out.trans (HB.out.mono HB1.out.size))
    have hl0 := tdAt_len rs hold k
    by_cases hlt : k < rs.length
    · have hlt' : k < hs.length := by omega
      have HRW := Lib.hid (HR1.out.below HB.out)
      obtain ⟨g, cc, e1, p0⟩ := HRW.out.cell hlt'
      injection e1 with e1 e3 e2
      subst e1 e2
      clear e3
      have hKR := HRW.out.blk k hlt' hlt
      have HNX := Lib.hid (tdAt_next (hold := hold) hlt)
      have hin := HIN.out rs[k] (List.getElem_mem hlt)
      have HLR := Lib.hid hlr
      clear hlr
      generalize tdAt rs hold k = ts at *
      generalize hs[k] = q at *
      clear hlt'
      generalize rs[k] = r at *
      have r0 : wr.cell? ⟨q, 0, none⟩ = some (.string (bstr r.ask.id)) := hKR.cell 0
      have r2 : wr.cell? ⟨q, 2, none⟩ = some (.int .i64 r.ask.at_) := hKR.cell 2
      have r3 : wr.cell? ⟨q, 3, none⟩ = some (.string (bstr r.ask.pre)) := hKR.cell 3
      have r5 : wr.cell? ⟨q, 5, none⟩ = some (.bool r.grant) := hKR.cell 5
      have r6 : wr.cell? ⟨q, 6, none⟩ = some (.int .i64 r.end_) := hKR.cell 6
      have HKR := Lib.hid hKR
      clear hKR
      have hov : IntKind.i64.wrap (r.ask.at_ + hold) = r.ask.at_ + hold := IntWalk.i64_in _ (by have := HHO.out; omega)
      have hBw := HB.out.size
      by_cases he : 0 ≤ r.end_
      · have HE0 : Hid (tdEnd0 r = r.end_) := Lib.hid (if_pos he)
        cases hg : r.grant with
        | true =>
          have HE : Hid (tdEnd r hold = r.end_) := Lib.hid (by rw [tdEnd, if_neg (by rw [hg]; decide), HE0.out])
          rw [hg] at r5
          by_cases hd : r.end_ ≤ r.ask.at_
          · have HT : Hid (tdOne r hold = []) := Lib.hid (if_pos (by rw [HE.out]; exact hd))
            clear HE
            go_wp2_with fail
            clear r0 r2 r3 r5 r6 p0
            go_roundw
            case rel => first | exact ⟨k + 1, _, rfl, by omega, by go_num, by rw [HNX.out, HT.out, List.append_nil]; exact HO, HB⟩ | (repeat (apply Exists.intro); (refine And.intro ?_ ?_; rotate_left; (repeat' (first | exact rfl | apply And.intro)); exact ⟨k + 1, _, rfl, by omega, by go_num, by rw [HNX.out, HT.out, List.append_nil]; exact HO, HB⟩))
            case measure => simp [intOf]; omega
          · have HT : Hid (tdOne r hold = [tdRgt r hold]) := Lib.hid (if_neg (by rw [HE.out]; exact hd))
            have HTR : Hid (rgtCells (tdRgt r hold) = [.string (bstr r.ask.id), .string (bstr r.ask.pre), .int .i64 0, .int .i64 253402300800, .int .i64 r.ask.at_, .int .i64 (r.end_), .int .i64 r.ask.at_, .int .i64 4, .string ⟨#[]⟩]) := Lib.hid (by rw [tdRgt, HE.out]; rfl)
            clear HE
            go_wp2_with fail
            have KEEP : Hid (∀ w', Below wr.heap.size wr w' → (w'.cell? ⟨q, 0, none⟩ = some (.string (bstr r.ask.id)) ∧ w'.cell? ⟨q, 3, none⟩ = some (.string (bstr r.ask.pre)) ∧ w'.cell? ⟨q, 2, none⟩ = some (.int .i64 r.ask.at_))) := Lib.hid (fun w' hg => by
              have h := HKR.out.same (same_below hg) HKR.out.lt
              exact ⟨h.cell 0, h.cell 3, h.cell 2⟩)
            clear r0 r2 r3 r5 r6 p0
            refine wp_region_held_drew (S := fun w' => w'.cell? ⟨q, 0, none⟩ = some (.string (bstr r.ask.id)) ∧ w'.cell? ⟨q, 3, none⟩ = some (.string (bstr r.ask.pre)) ∧ w'.cell? ⟨q, 2, none⟩ = some (.int .i64 r.ask.at_)) (by kernel_rfl) (KEEP.out _ (Below.drew (Below.refl _ _))) (fun hHeld => ?_)
            obtain ⟨wd, hwd⟩ : ∃ wd, wd = World.drew wr := ⟨_, rfl⟩
            have HG0 : Hid (Below wr.heap.size wr wd) := Lib.hid (by rw [hwd]; exact Below.drew (Below.refl _ _))
            rw [← hwd] at hHeld ⊢
            clear hwd
            refine wpAnyH_take (i := 0) (v := ?_) rfl (by kernel_rfl) (by kernel_rfl) (by kernel_rfl) (fun _ _ _ h => h) (Or.inl ⟨by rfl, ?_⟩) (by assumption) ?_
            rotate_left
            · (intro w hSw; (try dsimp only at hSw); obtain ⟨hs0, hs3, hs2⟩ := hSw; go_simp; try with_reducible rfl)
            try simp only [List.getElem_toArray, List.getElem_cons_succ, List.getElem_cons_zero, Act.put, List.setIfInBounds_toArray, List.set_cons_zero, List.set_cons_succ]
            refine wpAnyH_take (i := 1) (v := ?_) rfl (by kernel_rfl) (by kernel_rfl) (by kernel_rfl) (fun _ _ _ h => h) (Or.inl ⟨by rfl, ?_⟩) (by assumption) ?_
            rotate_left
            · (intro w hSw; (try dsimp only at hSw); obtain ⟨hs0, hs3, hs2⟩ := hSw; go_simp; try with_reducible rfl)
            try simp only [List.getElem_toArray, List.getElem_cons_succ, List.getElem_cons_zero, Act.put, List.setIfInBounds_toArray, List.set_cons_zero, List.set_cons_succ]
            refine wpAnyH_take (i := 2) (v := ?_) rfl (by kernel_rfl) (by kernel_rfl) (by kernel_rfl) (fun _ _ _ h => h) (Or.inl ⟨by rfl, ?_⟩) (by assumption) ?_
            rotate_left
            · (intro w hSw; (try dsimp only at hSw); obtain ⟨hs0, hs3, hs2⟩ := hSw; go_simp; try with_reducible rfl)
            try simp only [List.getElem_toArray, List.getElem_cons_succ, List.getElem_cons_zero, Act.put, List.setIfInBounds_toArray, List.set_cons_zero, List.set_cons_succ]
            refine wpAnyH_take (i := 3) (v := ?_) rfl (by kernel_rfl) (by kernel_rfl) (by kernel_rfl) (fun _ _ _ h => h) (Or.inl ⟨by rfl, ?_⟩) (by assumption) ?_
            rotate_left
            · (intro w hSw; (try dsimp only at hSw); obtain ⟨hs0, hs3, hs2⟩ := hSw; go_simp; try with_reducible rfl)
            try simp only [List.getElem_toArray, List.getElem_cons_succ, List.getElem_cons_zero, Act.put, List.setIfInBounds_toArray, List.set_cons_zero, List.set_cons_succ]
            refine wpAnyH_take (i := 4) (v := ?_) rfl (by kernel_rfl) (by kernel_rfl) (by kernel_rfl) (fun _ _ _ h => h) (Or.inl ⟨by rfl, ?_⟩) (by assumption) ?_
            rotate_left
            · (intro w hSw; (try dsimp only at hSw); obtain ⟨hs0, hs3, hs2⟩ := hSw; go_simp; try with_reducible rfl)
            try simp only [List.getElem_toArray, List.getElem_cons_succ, List.getElem_cons_zero, Act.put, List.setIfInBounds_toArray, List.set_cons_zero, List.set_cons_succ]
            refine wpAnyH_take (i := 5) (v := ?_) rfl (by kernel_rfl) (by kernel_rfl) (by kernel_rfl) (fun _ _ _ h => h) (Or.inl ⟨by rfl, ?_⟩) (by assumption) ?_
            rotate_left
            · (intro w hSw; (try dsimp only at hSw); obtain ⟨hs0, hs3, hs2⟩ := hSw; go_simp; try with_reducible rfl)
            try simp only [List.getElem_toArray, List.getElem_cons_succ, List.getElem_cons_zero, Act.put, List.setIfInBounds_toArray, List.set_cons_zero, List.set_cons_succ]
            refine wpAnyH_take (i := 6) (v := ?_) rfl (by kernel_rfl) (by kernel_rfl) (by kernel_rfl) (fun _ _ _ h => h) (Or.inl ⟨by rfl, ?_⟩) (by assumption) ?_
            rotate_left
            · (intro w hSw; (try dsimp only at hSw); obtain ⟨hs0, hs3, hs2⟩ := hSw; go_simp; try with_reducible rfl)
            try simp only [List.getElem_toArray, List.getElem_cons_succ, List.getElem_cons_zero, Act.put, List.setIfInBounds_toArray, List.set_cons_zero, List.set_cons_succ]
            refine wpAnyH_take (i := 7) (v := ?_) rfl (by kernel_rfl) (by kernel_rfl) (by kernel_rfl) (fun _ _ _ h => h) (Or.inl ⟨by rfl, ?_⟩) (by assumption) ?_
            rotate_left
            · (intro w hSw; (try dsimp only at hSw); obtain ⟨hs0, hs3, hs2⟩ := hSw; go_simp; try with_reducible rfl)
            try simp only [List.getElem_toArray, List.getElem_cons_succ, List.getElem_cons_zero, Act.put, List.setIfInBounds_toArray, List.set_cons_zero, List.set_cons_succ]
            refine wpAnyH_take (i := 8) (v := ?_) rfl (by kernel_rfl) (by kernel_rfl) (by kernel_rfl) (fun _ _ _ h => h) (Or.inl ⟨by rfl, ?_⟩) (by assumption) ?_
            rotate_left
            · (intro w hSw; (try dsimp only at hSw); obtain ⟨hs0, hs3, hs2⟩ := hSw; go_simp; try with_reducible rfl)
            try simp only [List.getElem_toArray, List.getElem_cons_succ, List.getElem_cons_zero, Act.put, List.setIfInBounds_toArray, List.set_cons_zero, List.set_cons_succ]
            refine wpAnyH_take (i := 9) (v := ?_) rfl (by kernel_rfl) (by kernel_rfl) (by kernel_rfl) (fun _ _ _ h => h) (Or.inl ⟨by rfl, ?_⟩) (by assumption) ?_
            rotate_left
            · (intro w hSw; (try dsimp only at hSw); obtain ⟨hs0, hs3, hs2⟩ := hSw; go_simp; try with_reducible rfl)
            try simp only [List.getElem_toArray, List.getElem_cons_succ, List.getElem_cons_zero, Act.put, List.setIfInBounds_toArray, List.set_cons_zero, List.set_cons_succ]
            refine wpAnyH_take (i := 10) (v := ?_) rfl (by kernel_rfl) (by kernel_rfl) (by kernel_rfl) (fun _ _ _ h => h) (Or.inl ⟨by rfl, ?_⟩) (by assumption) ?_
            rotate_left
            · (intro w hSw; (try dsimp only at hSw); obtain ⟨hs0, hs3, hs2⟩ := hSw; go_simp; try with_reducible rfl)
            try simp only [List.getElem_toArray, List.getElem_cons_succ, List.getElem_cons_zero, Act.put, List.setIfInBounds_toArray, List.set_cons_zero, List.set_cons_succ]
            refine wpAnyH_take (i := 11) (v := ?_) rfl (by kernel_rfl) (by kernel_rfl) (by kernel_rfl) (fun _ _ _ h => h) (Or.inl ⟨by rfl, ?_⟩) (by assumption) ?_
            rotate_left
            · (intro w hSw; (try dsimp only at hSw); obtain ⟨hs0, hs3, hs2⟩ := hSw; go_simp; try with_reducible rfl)
            try simp only [List.getElem_toArray, List.getElem_cons_succ, List.getElem_cons_zero, Act.put, List.setIfInBounds_toArray, List.set_cons_zero, List.set_cons_succ]
            refine wpAnyH_take (i := 12) (v := ?_) rfl (by kernel_rfl) (by kernel_rfl) (by kernel_rfl) (fun _ _ _ h => h) (Or.inl ⟨by rfl, ?_⟩) (by assumption) ?_
            rotate_left
            · (intro w hSw; (try dsimp only at hSw); obtain ⟨hs0, hs3, hs2⟩ := hSw; go_simp; try with_reducible rfl)
            try simp only [List.getElem_toArray, List.getElem_cons_succ, List.getElem_cons_zero, Act.put, List.setIfInBounds_toArray, List.set_cons_zero, List.set_cons_succ]
            refine wpAnyH_take (i := 13) (v := ?_) rfl (by kernel_rfl) (by kernel_rfl) (by kernel_rfl) (fun _ _ _ h => h) (Or.inl ⟨by rfl, ?_⟩) (by assumption) ?_
            rotate_left
            · (intro w hSw; (try dsimp only at hSw); obtain ⟨hs0, hs3, hs2⟩ := hSw; go_simp; try with_reducible rfl)
            try simp only [List.getElem_toArray, List.getElem_cons_succ, List.getElem_cons_zero, Act.put, List.setIfInBounds_toArray, List.set_cons_zero, List.set_cons_succ]
            refine wpAnyH_take (i := 14) (v := ?_) rfl (by kernel_rfl) (by kernel_rfl) (by kernel_rfl) (fun _ _ _ h => h) (Or.inl ⟨by rfl, ?_⟩) (by assumption) ?_
            rotate_left
            · (intro w hSw; (try dsimp only at hSw); obtain ⟨hs0, hs3, hs2⟩ := hSw; go_simp; try with_reducible rfl)
            try simp only [List.getElem_toArray, List.getElem_cons_succ, List.getElem_cons_zero, Act.put, List.setIfInBounds_toArray, List.set_cons_zero, List.set_cons_succ]
            refine wpAnyH_take (i := 15) (v := ?_) rfl (by kernel_rfl) (by kernel_rfl) (by kernel_rfl) (fun _ _ _ h => h) (Or.inl ⟨by rfl, ?_⟩) (by assumption) ?_
            rotate_left
            · (intro w hSw; (try dsimp only at hSw); obtain ⟨hs0, hs3, hs2⟩ := hSw; go_simp; try with_reducible rfl)
            try simp only [List.getElem_toArray, List.getElem_cons_succ, List.getElem_cons_zero, Act.put, List.setIfInBounds_toArray, List.set_cons_zero, List.set_cons_succ]
            refine wpAnyH_take (i := 16) (v := ?_) rfl (by kernel_rfl) (by kernel_rfl) (by kernel_rfl) (fun _ _ _ h => h) (Or.inl ⟨by rfl, ?_⟩) (by assumption) ?_
            rotate_left
            · (intro w hSw; (try dsimp only at hSw); obtain ⟨hs0, hs3, hs2⟩ := hSw; go_simp; try with_reducible rfl)
            try simp only [List.getElem_toArray, List.getElem_cons_succ, List.getElem_cons_zero, Act.put, List.setIfInBounds_toArray, List.set_cons_zero, List.set_cons_succ]
            refine wpAnyH_take (i := 17) (v := ?_) rfl (by kernel_rfl) (by kernel_rfl) (by kernel_rfl) (fun _ _ _ h => h) (Or.inl ⟨by rfl, ?_⟩) (by assumption) ?_
            rotate_left
            · (intro w hSw; (try dsimp only at hSw); obtain ⟨hs0, hs3, hs2⟩ := hSw; go_simp; try with_reducible rfl)
            try simp only [List.getElem_toArray, List.getElem_cons_succ, List.getElem_cons_zero, Act.put, List.setIfInBounds_toArray, List.set_cons_zero, List.set_cons_succ]
            refine wpAnyH_take (i := 18) (v := ?_) rfl (by kernel_rfl) (by kernel_rfl) (by kernel_rfl) (fun _ _ _ h => h) (Or.inl ⟨by rfl, ?_⟩) (by assumption) ?_
            rotate_left
            · (intro w hSw; (try dsimp only at hSw); obtain ⟨hs0, hs3, hs2⟩ := hSw; go_simp; try with_reducible rfl)
            try simp only [List.getElem_toArray, List.getElem_cons_succ, List.getElem_cons_zero, Act.put, List.setIfInBounds_toArray, List.set_cons_zero, List.set_cons_succ]
            refine wpAnyH_take (i := 19) (v := ?_) rfl (by kernel_rfl) (by kernel_rfl) (by kernel_rfl) (fun _ _ _ h => h) (Or.inl ⟨by rfl, ?_⟩) (by assumption) ?_
            rotate_left
            · (intro w hSw; (try dsimp only at hSw); obtain ⟨hs0, hs3, hs2⟩ := hSw; go_simp; try with_reducible rfl)
            try simp only [List.getElem_toArray, List.getElem_cons_succ, List.getElem_cons_zero, Act.put, List.setIfInBounds_toArray, List.set_cons_zero, List.set_cons_succ]
            refine wpAnyH_take (i := 20) (v := ?_) rfl (by kernel_rfl) (by kernel_rfl) (by kernel_rfl) (fun _ _ _ h => h) (Or.inl ⟨by rfl, ?_⟩) (by assumption) ?_
            rotate_left
            · (intro w hSw; (try dsimp only at hSw); obtain ⟨hs0, hs3, hs2⟩ := hSw; go_simp; try with_reducible rfl)
            try simp only [List.getElem_toArray, List.getElem_cons_succ, List.getElem_cons_zero, Act.put, List.setIfInBounds_toArray, List.set_cons_zero, List.set_cons_succ]
            refine wpAnyH_take (i := 21) (v := ?_) rfl (by kernel_rfl) (by kernel_rfl) (by kernel_rfl) (fun _ _ _ h => h) (Or.inl ⟨by rfl, ?_⟩) (by assumption) ?_
            rotate_left
            · (intro w hSw; (try dsimp only at hSw); obtain ⟨hs0, hs3, hs2⟩ := hSw; go_simp; try with_reducible rfl)
            try simp only [List.getElem_toArray, List.getElem_cons_succ, List.getElem_cons_zero, Act.put, List.setIfInBounds_toArray, List.set_cons_zero, List.set_cons_succ]
            refine wpAnyH_take (i := 22) (v := ?_) rfl (by kernel_rfl) (by kernel_rfl) (by kernel_rfl) (fun _ _ _ h => h) (Or.inl ⟨by rfl, ?_⟩) (by assumption) ?_
            rotate_left
            · (intro w hSw; (try dsimp only at hSw); obtain ⟨hs0, hs3, hs2⟩ := hSw; go_simp; try with_reducible rfl)
            try simp only [List.getElem_toArray, List.getElem_cons_succ, List.getElem_cons_zero, Act.put, List.setIfInBounds_toArray, List.set_cons_zero, List.set_cons_succ]
            have HOD := Lib.hid (own_below HO.out HG0.out)
            have HBD := Lib.hid (HB.out.trans (HG0.out.mono HB.out.size))
            have hBd := HBD.out.size
            have HAL : Hid (Below wr.heap.size wr (wd.alloc (.cells #[.string (bstr r.ask.id), .string (bstr r.ask.pre), .int .i64 0, .int .i64 253402300800, .int .i64 r.ask.at_, .int .i64 (r.end_), .int .i64 r.ask.at_, .int .i64 4, .string ⟨#[]⟩] 32))) := Lib.hid (HG0.out.trans (((Below.refl wd.heap.size wd).alloc (Nat.le_refl _) (.cells #[.string (bstr r.ask.id), .string (bstr r.ask.pre), .int .i64 0, .int .i64 253402300800, .int .i64 r.ask.at_, .int .i64 (r.end_), .int .i64 r.ask.at_, .int .i64 4, .string ⟨#[]⟩] 32)).mono HG0.out.size))
            refine wpAnyH_ready (rs := [23]) (by kernel_rfl) (by simp) ?_
            refine AllReadyH.cons rfl (fun K hK => ?_) AllReadyH.nil
            rw [if_pos (by rfl)]
            simp only [List.getElem_toArray, List.getElem_cons_succ, List.getElem_cons_zero]
            go_simp
            refine hK.out _ _ (KEEP.out _ HAL.out) (fun hHeld => ?_)
            clear hK K
            try simp only [List.getElem_toArray, List.getElem_cons_succ, List.getElem_cons_zero, Act.put, List.setIfInBounds_toArray, List.set_cons_zero, List.set_cons_succ]
            refine wpAnyH_ready (rs := [24]) (by kernel_rfl) (by simp) ?_
            refine AllReadyH.cons rfl (fun K hK => ?_) AllReadyH.nil
            refine step_app_new (w := wd) (by rfl) (.tmp 59) (.tmp 82) 27 (by rfl) 32 (.agg #[.string ⟨#[]⟩, .string ⟨#[]⟩, .int .i64 0, .int .i64 0, .int .i64 0, .int .i64 0, .int .i64 0, .int .i64 0, .string ⟨#[]⟩]) 9 96 Tryd.underlying27 rgt_info rfl (by decide) (m := 1) [.string (bstr r.ask.id), .string (bstr r.ask.pre), .int .i64 0, .int .i64 253402300800, .int .i64 r.ask.at_, .int .i64 (r.end_), .int .i64 r.ask.at_, .int .i64 4, .string ⟨#[]⟩] 0 rfl HOD.out hBd rfl rfl rfl (by decide) (by simp [Value.oneCell']) (by unfold maxLen; omega) (by omega) ?_
            intro g9 c9 w9 HO9 HG9 HE9 HL9
            have HB9 := Lib.hid (HBD.out.grown HG9.out hBd (fun j hj => (HOD.out.lt j hj).1))
            have HK9 := Lib.hid (((HKR.out.same (same_below HG0.out) HKR.out.lt).same (grown_same HG9.out) ⟨Nat.lt_of_lt_of_le HKR.out.lt HG0.out.size, blk_not_row (HKR.out.same (same_below HG0.out) HKR.out.lt) HOD.out (by decide)⟩))
            refine hK.out _ _ ⟨HK9.out.cell 0, HK9.out.cell 3, HK9.out.cell 2⟩ (fun hHeld => ?_)
            clear hK K
            try simp only [List.getElem_toArray, List.getElem_cons_succ, List.getElem_cons_zero, Act.put, List.setIfInBounds_toArray, List.set_cons_zero, List.set_cons_succ]
            refine wpAnyH_take (i := 25) (v := ?_) rfl (by kernel_rfl) (by kernel_rfl) (by kernel_rfl) (fun _ _ _ h => h) (Or.inl ⟨by rfl, ?_⟩) (by assumption) ?_
            rotate_left
            · (intro w hSw; (try dsimp only at hSw); obtain ⟨hs0, hs3, hs2⟩ := hSw; go_simp; try with_reducible rfl)
            try simp only [List.getElem_toArray, List.getElem_cons_succ, List.getElem_cons_zero, Act.put, List.setIfInBounds_toArray, List.set_cons_zero, List.set_cons_succ]
            refine wpAnyH_done (by kernel_rfl) ?_ _
            clear hHeld
            have HON : Hid (w9.ownsRow w1.heap.size 32 9 (.slice (some ⟨g9, 0, none⟩) (ts.length + 1) c9) (ts ++ tdOne r hold).length ((ts ++ tdOne r hold).flatMap rgtCells)) := Lib.hid (by
              have h9 := HO9.out
              rw [HT.out, List.flatMap_append, show ([tdRgt r hold].flatMap rgtCells) = rgtCells (tdRgt r hold) by simp, HTR.out, List.length_append]
              exact h9)
            clear HO9 HG9 HE9 HL9 HOD KEEP HAL HK9
            go_wp2_with fail
            go_roundw
            case rel => first | exact ⟨k + 1, _, rfl, by omega, by go_num, by rw [HNX.out]; exact HON, HB9⟩ | (repeat (apply Exists.intro); (refine And.intro ?_ ?_; rotate_left; (repeat' (first | exact rfl | apply And.intro)); exact ⟨k + 1, _, rfl, by omega, by go_num, by rw [HNX.out]; exact HON, HB9⟩))
            case measure => simp [intOf]; omega
        | false =>
          have HE : Hid (tdEnd r hold = min r.end_ (r.ask.at_ + hold)) := Lib.hid (by rw [tdEnd, if_pos hg, HE0.out])
          rw [hg] at r5
          by_cases hd : min r.end_ (r.ask.at_ + hold) ≤ r.ask.at_
          · have HT : Hid (tdOne r hold = []) := Lib.hid (if_pos (by rw [HE.out]; exact hd))
            clear HE
            go_wp2_with fail
            clear r0 r2 r3 r5 r6 p0
            go_roundw
            case rel => first | exact ⟨k + 1, _, rfl, by omega, by go_num, by rw [HNX.out, HT.out, List.append_nil]; exact HO, HB⟩ | (repeat (apply Exists.intro); (refine And.intro ?_ ?_; rotate_left; (repeat' (first | exact rfl | apply And.intro)); exact ⟨k + 1, _, rfl, by omega, by go_num, by rw [HNX.out, HT.out, List.append_nil]; exact HO, HB⟩))
            case measure => simp [intOf]; omega
          · have HT : Hid (tdOne r hold = [tdRgt r hold]) := Lib.hid (if_neg (by rw [HE.out]; exact hd))
            have HTR : Hid (rgtCells (tdRgt r hold) = [.string (bstr r.ask.id), .string (bstr r.ask.pre), .int .i64 0, .int .i64 253402300800, .int .i64 r.ask.at_, .int .i64 (min r.end_ (r.ask.at_ + hold)), .int .i64 r.ask.at_, .int .i64 4, .string ⟨#[]⟩]) := Lib.hid (by rw [tdRgt, HE.out]; rfl)
            clear HE
            go_wp2_with fail
            have KEEP : Hid (∀ w', Below wr.heap.size wr w' → (w'.cell? ⟨q, 0, none⟩ = some (.string (bstr r.ask.id)) ∧ w'.cell? ⟨q, 3, none⟩ = some (.string (bstr r.ask.pre)) ∧ w'.cell? ⟨q, 2, none⟩ = some (.int .i64 r.ask.at_))) := Lib.hid (fun w' hg => by
              have h := HKR.out.same (same_below hg) HKR.out.lt
              exact ⟨h.cell 0, h.cell 3, h.cell 2⟩)
            clear r0 r2 r3 r5 r6 p0
            refine wp_region_held_drew (S := fun w' => w'.cell? ⟨q, 0, none⟩ = some (.string (bstr r.ask.id)) ∧ w'.cell? ⟨q, 3, none⟩ = some (.string (bstr r.ask.pre)) ∧ w'.cell? ⟨q, 2, none⟩ = some (.int .i64 r.ask.at_)) (by kernel_rfl) (KEEP.out _ (Below.drew (Below.refl _ _))) (fun hHeld => ?_)
            obtain ⟨wd, hwd⟩ : ∃ wd, wd = World.drew wr := ⟨_, rfl⟩
            have HG0 : Hid (Below wr.heap.size wr wd) := Lib.hid (by rw [hwd]; exact Below.drew (Below.refl _ _))
            rw [← hwd] at hHeld ⊢
            clear hwd
            refine wpAnyH_take (i := 0) (v := ?_) rfl (by kernel_rfl) (by kernel_rfl) (by kernel_rfl) (fun _ _ _ h => h) (Or.inl ⟨by rfl, ?_⟩) (by assumption) ?_
            rotate_left
            · (intro w hSw; (try dsimp only at hSw); obtain ⟨hs0, hs3, hs2⟩ := hSw; go_simp; try with_reducible rfl)
            try simp only [List.getElem_toArray, List.getElem_cons_succ, List.getElem_cons_zero, Act.put, List.setIfInBounds_toArray, List.set_cons_zero, List.set_cons_succ]
            refine wpAnyH_take (i := 1) (v := ?_) rfl (by kernel_rfl) (by kernel_rfl) (by kernel_rfl) (fun _ _ _ h => h) (Or.inl ⟨by rfl, ?_⟩) (by assumption) ?_
            rotate_left
            · (intro w hSw; (try dsimp only at hSw); obtain ⟨hs0, hs3, hs2⟩ := hSw; go_simp; try with_reducible rfl)
            try simp only [List.getElem_toArray, List.getElem_cons_succ, List.getElem_cons_zero, Act.put, List.setIfInBounds_toArray, List.set_cons_zero, List.set_cons_succ]
            refine wpAnyH_take (i := 2) (v := ?_) rfl (by kernel_rfl) (by kernel_rfl) (by kernel_rfl) (fun _ _ _ h => h) (Or.inl ⟨by rfl, ?_⟩) (by assumption) ?_
            rotate_left
            · (intro w hSw; (try dsimp only at hSw); obtain ⟨hs0, hs3, hs2⟩ := hSw; go_simp; try with_reducible rfl)
            try simp only [List.getElem_toArray, List.getElem_cons_succ, List.getElem_cons_zero, Act.put, List.setIfInBounds_toArray, List.set_cons_zero, List.set_cons_succ]
            refine wpAnyH_take (i := 3) (v := ?_) rfl (by kernel_rfl) (by kernel_rfl) (by kernel_rfl) (fun _ _ _ h => h) (Or.inl ⟨by rfl, ?_⟩) (by assumption) ?_
            rotate_left
            · (intro w hSw; (try dsimp only at hSw); obtain ⟨hs0, hs3, hs2⟩ := hSw; go_simp; try with_reducible rfl)
            try simp only [List.getElem_toArray, List.getElem_cons_succ, List.getElem_cons_zero, Act.put, List.setIfInBounds_toArray, List.set_cons_zero, List.set_cons_succ]
            refine wpAnyH_take (i := 4) (v := ?_) rfl (by kernel_rfl) (by kernel_rfl) (by kernel_rfl) (fun _ _ _ h => h) (Or.inl ⟨by rfl, ?_⟩) (by assumption) ?_
            rotate_left
            · (intro w hSw; (try dsimp only at hSw); obtain ⟨hs0, hs3, hs2⟩ := hSw; go_simp; try with_reducible rfl)
            try simp only [List.getElem_toArray, List.getElem_cons_succ, List.getElem_cons_zero, Act.put, List.setIfInBounds_toArray, List.set_cons_zero, List.set_cons_succ]
            refine wpAnyH_take (i := 5) (v := ?_) rfl (by kernel_rfl) (by kernel_rfl) (by kernel_rfl) (fun _ _ _ h => h) (Or.inl ⟨by rfl, ?_⟩) (by assumption) ?_
            rotate_left
            · (intro w hSw; (try dsimp only at hSw); obtain ⟨hs0, hs3, hs2⟩ := hSw; go_simp; try with_reducible rfl)
            try simp only [List.getElem_toArray, List.getElem_cons_succ, List.getElem_cons_zero, Act.put, List.setIfInBounds_toArray, List.set_cons_zero, List.set_cons_succ]
            refine wpAnyH_take (i := 6) (v := ?_) rfl (by kernel_rfl) (by kernel_rfl) (by kernel_rfl) (fun _ _ _ h => h) (Or.inl ⟨by rfl, ?_⟩) (by assumption) ?_
            rotate_left
            · (intro w hSw; (try dsimp only at hSw); obtain ⟨hs0, hs3, hs2⟩ := hSw; go_simp; try with_reducible rfl)
            try simp only [List.getElem_toArray, List.getElem_cons_succ, List.getElem_cons_zero, Act.put, List.setIfInBounds_toArray, List.set_cons_zero, List.set_cons_succ]
            refine wpAnyH_take (i := 7) (v := ?_) rfl (by kernel_rfl) (by kernel_rfl) (by kernel_rfl) (fun _ _ _ h => h) (Or.inl ⟨by rfl, ?_⟩) (by assumption) ?_
            rotate_left
            · (intro w hSw; (try dsimp only at hSw); obtain ⟨hs0, hs3, hs2⟩ := hSw; go_simp; try with_reducible rfl)
            try simp only [List.getElem_toArray, List.getElem_cons_succ, List.getElem_cons_zero, Act.put, List.setIfInBounds_toArray, List.set_cons_zero, List.set_cons_succ]
            refine wpAnyH_take (i := 8) (v := ?_) rfl (by kernel_rfl) (by kernel_rfl) (by kernel_rfl) (fun _ _ _ h => h) (Or.inl ⟨by rfl, ?_⟩) (by assumption) ?_
            rotate_left
            · (intro w hSw; (try dsimp only at hSw); obtain ⟨hs0, hs3, hs2⟩ := hSw; go_simp; try with_reducible rfl)
            try simp only [List.getElem_toArray, List.getElem_cons_succ, List.getElem_cons_zero, Act.put, List.setIfInBounds_toArray, List.set_cons_zero, List.set_cons_succ]
            refine wpAnyH_take (i := 9) (v := ?_) rfl (by kernel_rfl) (by kernel_rfl) (by kernel_rfl) (fun _ _ _ h => h) (Or.inl ⟨by rfl, ?_⟩) (by assumption) ?_
            rotate_left
            · (intro w hSw; (try dsimp only at hSw); obtain ⟨hs0, hs3, hs2⟩ := hSw; go_simp; try with_reducible rfl)
            try simp only [List.getElem_toArray, List.getElem_cons_succ, List.getElem_cons_zero, Act.put, List.setIfInBounds_toArray, List.set_cons_zero, List.set_cons_succ]
            refine wpAnyH_take (i := 10) (v := ?_) rfl (by kernel_rfl) (by kernel_rfl) (by kernel_rfl) (fun _ _ _ h => h) (Or.inl ⟨by rfl, ?_⟩) (by assumption) ?_
            rotate_left
            · (intro w hSw; (try dsimp only at hSw); obtain ⟨hs0, hs3, hs2⟩ := hSw; go_simp; try with_reducible rfl)
            try simp only [List.getElem_toArray, List.getElem_cons_succ, List.getElem_cons_zero, Act.put, List.setIfInBounds_toArray, List.set_cons_zero, List.set_cons_succ]
            refine wpAnyH_take (i := 11) (v := ?_) rfl (by kernel_rfl) (by kernel_rfl) (by kernel_rfl) (fun _ _ _ h => h) (Or.inl ⟨by rfl, ?_⟩) (by assumption) ?_
            rotate_left
            · (intro w hSw; (try dsimp only at hSw); obtain ⟨hs0, hs3, hs2⟩ := hSw; go_simp; try with_reducible rfl)
            try simp only [List.getElem_toArray, List.getElem_cons_succ, List.getElem_cons_zero, Act.put, List.setIfInBounds_toArray, List.set_cons_zero, List.set_cons_succ]
            refine wpAnyH_take (i := 12) (v := ?_) rfl (by kernel_rfl) (by kernel_rfl) (by kernel_rfl) (fun _ _ _ h => h) (Or.inl ⟨by rfl, ?_⟩) (by assumption) ?_
            rotate_left
            · (intro w hSw; (try dsimp only at hSw); obtain ⟨hs0, hs3, hs2⟩ := hSw; go_simp; try with_reducible rfl)
            try simp only [List.getElem_toArray, List.getElem_cons_succ, List.getElem_cons_zero, Act.put, List.setIfInBounds_toArray, List.set_cons_zero, List.set_cons_succ]
            refine wpAnyH_take (i := 13) (v := ?_) rfl (by kernel_rfl) (by kernel_rfl) (by kernel_rfl) (fun _ _ _ h => h) (Or.inl ⟨by rfl, ?_⟩) (by assumption) ?_
            rotate_left
            · (intro w hSw; (try dsimp only at hSw); obtain ⟨hs0, hs3, hs2⟩ := hSw; go_simp; try with_reducible rfl)
            try simp only [List.getElem_toArray, List.getElem_cons_succ, List.getElem_cons_zero, Act.put, List.setIfInBounds_toArray, List.set_cons_zero, List.set_cons_succ]
            refine wpAnyH_take (i := 14) (v := ?_) rfl (by kernel_rfl) (by kernel_rfl) (by kernel_rfl) (fun _ _ _ h => h) (Or.inl ⟨by rfl, ?_⟩) (by assumption) ?_
            rotate_left
            · (intro w hSw; (try dsimp only at hSw); obtain ⟨hs0, hs3, hs2⟩ := hSw; go_simp; try with_reducible rfl)
            try simp only [List.getElem_toArray, List.getElem_cons_succ, List.getElem_cons_zero, Act.put, List.setIfInBounds_toArray, List.set_cons_zero, List.set_cons_succ]
            refine wpAnyH_take (i := 15) (v := ?_) rfl (by kernel_rfl) (by kernel_rfl) (by kernel_rfl) (fun _ _ _ h => h) (Or.inl ⟨by rfl, ?_⟩) (by assumption) ?_
            rotate_left
            · (intro w hSw; (try dsimp only at hSw); obtain ⟨hs0, hs3, hs2⟩ := hSw; go_simp; try with_reducible rfl)
            try simp only [List.getElem_toArray, List.getElem_cons_succ, List.getElem_cons_zero, Act.put, List.setIfInBounds_toArray, List.set_cons_zero, List.set_cons_succ]
            refine wpAnyH_take (i := 16) (v := ?_) rfl (by kernel_rfl) (by kernel_rfl) (by kernel_rfl) (fun _ _ _ h => h) (Or.inl ⟨by rfl, ?_⟩) (by assumption) ?_
            rotate_left
            · (intro w hSw; (try dsimp only at hSw); obtain ⟨hs0, hs3, hs2⟩ := hSw; go_simp; try with_reducible rfl)
            try simp only [List.getElem_toArray, List.getElem_cons_succ, List.getElem_cons_zero, Act.put, List.setIfInBounds_toArray, List.set_cons_zero, List.set_cons_succ]
            refine wpAnyH_take (i := 17) (v := ?_) rfl (by kernel_rfl) (by kernel_rfl) (by kernel_rfl) (fun _ _ _ h => h) (Or.inl ⟨by rfl, ?_⟩) (by assumption) ?_
            rotate_left
            · (intro w hSw; (try dsimp only at hSw); obtain ⟨hs0, hs3, hs2⟩ := hSw; go_simp; try with_reducible rfl)
            try simp only [List.getElem_toArray, List.getElem_cons_succ, List.getElem_cons_zero, Act.put, List.setIfInBounds_toArray, List.set_cons_zero, List.set_cons_succ]
            refine wpAnyH_take (i := 18) (v := ?_) rfl (by kernel_rfl) (by kernel_rfl) (by kernel_rfl) (fun _ _ _ h => h) (Or.inl ⟨by rfl, ?_⟩) (by assumption) ?_
            rotate_left
            · (intro w hSw; (try dsimp only at hSw); obtain ⟨hs0, hs3, hs2⟩ := hSw; go_simp; try with_reducible rfl)
            try simp only [List.getElem_toArray, List.getElem_cons_succ, List.getElem_cons_zero, Act.put, List.setIfInBounds_toArray, List.set_cons_zero, List.set_cons_succ]
            refine wpAnyH_take (i := 19) (v := ?_) rfl (by kernel_rfl) (by kernel_rfl) (by kernel_rfl) (fun _ _ _ h => h) (Or.inl ⟨by rfl, ?_⟩) (by assumption) ?_
            rotate_left
            · (intro w hSw; (try dsimp only at hSw); obtain ⟨hs0, hs3, hs2⟩ := hSw; go_simp; try with_reducible rfl)
            try simp only [List.getElem_toArray, List.getElem_cons_succ, List.getElem_cons_zero, Act.put, List.setIfInBounds_toArray, List.set_cons_zero, List.set_cons_succ]
            refine wpAnyH_take (i := 20) (v := ?_) rfl (by kernel_rfl) (by kernel_rfl) (by kernel_rfl) (fun _ _ _ h => h) (Or.inl ⟨by rfl, ?_⟩) (by assumption) ?_
            rotate_left
            · (intro w hSw; (try dsimp only at hSw); obtain ⟨hs0, hs3, hs2⟩ := hSw; go_simp; try with_reducible rfl)
            try simp only [List.getElem_toArray, List.getElem_cons_succ, List.getElem_cons_zero, Act.put, List.setIfInBounds_toArray, List.set_cons_zero, List.set_cons_succ]
            refine wpAnyH_take (i := 21) (v := ?_) rfl (by kernel_rfl) (by kernel_rfl) (by kernel_rfl) (fun _ _ _ h => h) (Or.inl ⟨by rfl, ?_⟩) (by assumption) ?_
            rotate_left
            · (intro w hSw; (try dsimp only at hSw); obtain ⟨hs0, hs3, hs2⟩ := hSw; go_simp; try with_reducible rfl)
            try simp only [List.getElem_toArray, List.getElem_cons_succ, List.getElem_cons_zero, Act.put, List.setIfInBounds_toArray, List.set_cons_zero, List.set_cons_succ]
            refine wpAnyH_take (i := 22) (v := ?_) rfl (by kernel_rfl) (by kernel_rfl) (by kernel_rfl) (fun _ _ _ h => h) (Or.inl ⟨by rfl, ?_⟩) (by assumption) ?_
            rotate_left
            · (intro w hSw; (try dsimp only at hSw); obtain ⟨hs0, hs3, hs2⟩ := hSw; go_simp; try with_reducible rfl)
            try simp only [List.getElem_toArray, List.getElem_cons_succ, List.getElem_cons_zero, Act.put, List.setIfInBounds_toArray, List.set_cons_zero, List.set_cons_succ]
            have HOD := Lib.hid (own_below HO.out HG0.out)
            have HBD := Lib.hid (HB.out.trans (HG0.out.mono HB.out.size))
            have hBd := HBD.out.size
            have HAL : Hid (Below wr.heap.size wr (wd.alloc (.cells #[.string (bstr r.ask.id), .string (bstr r.ask.pre), .int .i64 0, .int .i64 253402300800, .int .i64 r.ask.at_, .int .i64 (min r.end_ (r.ask.at_ + hold)), .int .i64 r.ask.at_, .int .i64 4, .string ⟨#[]⟩] 32))) := Lib.hid (HG0.out.trans (((Below.refl wd.heap.size wd).alloc (Nat.le_refl _) (.cells #[.string (bstr r.ask.id), .string (bstr r.ask.pre), .int .i64 0, .int .i64 253402300800, .int .i64 r.ask.at_, .int .i64 (min r.end_ (r.ask.at_ + hold)), .int .i64 r.ask.at_, .int .i64 4, .string ⟨#[]⟩] 32)).mono HG0.out.size))
            refine wpAnyH_ready (rs := [23]) (by kernel_rfl) (by simp) ?_
            refine AllReadyH.cons rfl (fun K hK => ?_) AllReadyH.nil
            rw [if_pos (by rfl)]
            simp only [List.getElem_toArray, List.getElem_cons_succ, List.getElem_cons_zero]
            go_simp
            refine hK.out _ _ (KEEP.out _ HAL.out) (fun hHeld => ?_)
            clear hK K
            try simp only [List.getElem_toArray, List.getElem_cons_succ, List.getElem_cons_zero, Act.put, List.setIfInBounds_toArray, List.set_cons_zero, List.set_cons_succ]
            refine wpAnyH_ready (rs := [24]) (by kernel_rfl) (by simp) ?_
            refine AllReadyH.cons rfl (fun K hK => ?_) AllReadyH.nil
            refine step_app_new (w := wd) (by rfl) (.tmp 59) (.tmp 82) 27 (by rfl) 32 (.agg #[.string ⟨#[]⟩, .string ⟨#[]⟩, .int .i64 0, .int .i64 0, .int .i64 0, .int .i64 0, .int .i64 0, .int .i64 0, .string ⟨#[]⟩]) 9 96 Tryd.underlying27 rgt_info rfl (by decide) (m := 1) [.string (bstr r.ask.id), .string (bstr r.ask.pre), .int .i64 0, .int .i64 253402300800, .int .i64 r.ask.at_, .int .i64 (min r.end_ (r.ask.at_ + hold)), .int .i64 r.ask.at_, .int .i64 4, .string ⟨#[]⟩] 0 rfl HOD.out hBd rfl rfl rfl (by decide) (by simp [Value.oneCell']) (by unfold maxLen; omega) (by omega) ?_
            intro g9 c9 w9 HO9 HG9 HE9 HL9
            have HB9 := Lib.hid (HBD.out.grown HG9.out hBd (fun j hj => (HOD.out.lt j hj).1))
            have HK9 := Lib.hid (((HKR.out.same (same_below HG0.out) HKR.out.lt).same (grown_same HG9.out) ⟨Nat.lt_of_lt_of_le HKR.out.lt HG0.out.size, blk_not_row (HKR.out.same (same_below HG0.out) HKR.out.lt) HOD.out (by decide)⟩))
            refine hK.out _ _ ⟨HK9.out.cell 0, HK9.out.cell 3, HK9.out.cell 2⟩ (fun hHeld => ?_)
            clear hK K
            try simp only [List.getElem_toArray, List.getElem_cons_succ, List.getElem_cons_zero, Act.put, List.setIfInBounds_toArray, List.set_cons_zero, List.set_cons_succ]
            refine wpAnyH_take (i := 25) (v := ?_) rfl (by kernel_rfl) (by kernel_rfl) (by kernel_rfl) (fun _ _ _ h => h) (Or.inl ⟨by rfl, ?_⟩) (by assumption) ?_
            rotate_left
            · (intro w hSw; (try dsimp only at hSw); obtain ⟨hs0, hs3, hs2⟩ := hSw; go_simp; try with_reducible rfl)
            try simp only [List.getElem_toArray, List.getElem_cons_succ, List.getElem_cons_zero, Act.put, List.setIfInBounds_toArray, List.set_cons_zero, List.set_cons_succ]
            refine wpAnyH_done (by kernel_rfl) ?_ _
            clear hHeld
            have HON : Hid (w9.ownsRow w1.heap.size 32 9 (.slice (some ⟨g9, 0, none⟩) (ts.length + 1) c9) (ts ++ tdOne r hold).length ((ts ++ tdOne r hold).flatMap rgtCells)) := Lib.hid (by
              have h9 := HO9.out
              rw [HT.out, List.flatMap_append, show ([tdRgt r hold].flatMap rgtCells) = rgtCells (tdRgt r hold) by simp, HTR.out, List.length_append]
              exact h9)
            clear HO9 HG9 HE9 HL9 HOD KEEP HAL HK9
            go_wp2_with fail
            go_roundw
            case rel => first | exact ⟨k + 1, _, rfl, by omega, by go_num, by rw [HNX.out]; exact HON, HB9⟩ | (repeat (apply Exists.intro); (refine And.intro ?_ ?_; rotate_left; (repeat' (first | exact rfl | apply And.intro)); exact ⟨k + 1, _, rfl, by omega, by go_num, by rw [HNX.out]; exact HON, HB9⟩))
            case measure => simp [intOf]; omega
      · have HE0 : Hid (tdEnd0 r = 253402300800) := Lib.hid (if_neg he)
        cases hg : r.grant with
        | true =>
          have HE : Hid (tdEnd r hold = 253402300800) := Lib.hid (by rw [tdEnd, if_neg (by rw [hg]; decide), HE0.out])
          rw [hg] at r5
          have hd : ¬ 253402300800 ≤ r.ask.at_ := by omega
          · have HT : Hid (tdOne r hold = [tdRgt r hold]) := Lib.hid (if_neg (by rw [HE.out]; exact hd))
            have HTR : Hid (rgtCells (tdRgt r hold) = [.string (bstr r.ask.id), .string (bstr r.ask.pre), .int .i64 0, .int .i64 253402300800, .int .i64 r.ask.at_, .int .i64 (253402300800), .int .i64 r.ask.at_, .int .i64 4, .string ⟨#[]⟩]) := Lib.hid (by rw [tdRgt, HE.out]; rfl)
            clear HE
            go_wp2_with fail
            have KEEP : Hid (∀ w', Below wr.heap.size wr w' → (w'.cell? ⟨q, 0, none⟩ = some (.string (bstr r.ask.id)) ∧ w'.cell? ⟨q, 3, none⟩ = some (.string (bstr r.ask.pre)) ∧ w'.cell? ⟨q, 2, none⟩ = some (.int .i64 r.ask.at_))) := Lib.hid (fun w' hg => by
              have h := HKR.out.same (same_below hg) HKR.out.lt
              exact ⟨h.cell 0, h.cell 3, h.cell 2⟩)
            clear r0 r2 r3 r5 r6 p0
            refine wp_region_held_drew (S := fun w' => w'.cell? ⟨q, 0, none⟩ = some (.string (bstr r.ask.id)) ∧ w'.cell? ⟨q, 3, none⟩ = some (.string (bstr r.ask.pre)) ∧ w'.cell? ⟨q, 2, none⟩ = some (.int .i64 r.ask.at_)) (by kernel_rfl) (KEEP.out _ (Below.drew (Below.refl _ _))) (fun hHeld => ?_)
            obtain ⟨wd, hwd⟩ : ∃ wd, wd = World.drew wr := ⟨_, rfl⟩
            have HG0 : Hid (Below wr.heap.size wr wd) := Lib.hid (by rw [hwd]; exact Below.drew (Below.refl _ _))
            rw [← hwd] at hHeld ⊢
            clear hwd
            refine wpAnyH_take (i := 0) (v := ?_) rfl (by kernel_rfl) (by kernel_rfl) (by kernel_rfl) (fun _ _ _ h => h) (Or.inl ⟨by rfl, ?_⟩) (by assumption) ?_
            rotate_left
            · (intro w hSw; (try dsimp only at hSw); obtain ⟨hs0, hs3, hs2⟩ := hSw; go_simp; try with_reducible rfl)
            try simp only [List.getElem_toArray, List.getElem_cons_succ, List.getElem_cons_zero, Act.put, List.setIfInBounds_toArray, List.set_cons_zero, List.set_cons_succ]
            refine wpAnyH_take (i := 1) (v := ?_) rfl (by kernel_rfl) (by kernel_rfl) (by kernel_rfl) (fun _ _ _ h => h) (Or.inl ⟨by rfl, ?_⟩) (by assumption) ?_
            rotate_left
            · (intro w hSw; (try dsimp only at hSw); obtain ⟨hs0, hs3, hs2⟩ := hSw; go_simp; try with_reducible rfl)
            try simp only [List.getElem_toArray, List.getElem_cons_succ, List.getElem_cons_zero, Act.put, List.setIfInBounds_toArray, List.set_cons_zero, List.set_cons_succ]
            refine wpAnyH_take (i := 2) (v := ?_) rfl (by kernel_rfl) (by kernel_rfl) (by kernel_rfl) (fun _ _ _ h => h) (Or.inl ⟨by rfl, ?_⟩) (by assumption) ?_
            rotate_left
            · (intro w hSw; (try dsimp only at hSw); obtain ⟨hs0, hs3, hs2⟩ := hSw; go_simp; try with_reducible rfl)
            try simp only [List.getElem_toArray, List.getElem_cons_succ, List.getElem_cons_zero, Act.put, List.setIfInBounds_toArray, List.set_cons_zero, List.set_cons_succ]
            refine wpAnyH_take (i := 3) (v := ?_) rfl (by kernel_rfl) (by kernel_rfl) (by kernel_rfl) (fun _ _ _ h => h) (Or.inl ⟨by rfl, ?_⟩) (by assumption) ?_
            rotate_left
            · (intro w hSw; (try dsimp only at hSw); obtain ⟨hs0, hs3, hs2⟩ := hSw; go_simp; try with_reducible rfl)
            try simp only [List.getElem_toArray, List.getElem_cons_succ, List.getElem_cons_zero, Act.put, List.setIfInBounds_toArray, List.set_cons_zero, List.set_cons_succ]
            refine wpAnyH_take (i := 4) (v := ?_) rfl (by kernel_rfl) (by kernel_rfl) (by kernel_rfl) (fun _ _ _ h => h) (Or.inl ⟨by rfl, ?_⟩) (by assumption) ?_
            rotate_left
            · (intro w hSw; (try dsimp only at hSw); obtain ⟨hs0, hs3, hs2⟩ := hSw; go_simp; try with_reducible rfl)
            try simp only [List.getElem_toArray, List.getElem_cons_succ, List.getElem_cons_zero, Act.put, List.setIfInBounds_toArray, List.set_cons_zero, List.set_cons_succ]
            refine wpAnyH_take (i := 5) (v := ?_) rfl (by kernel_rfl) (by kernel_rfl) (by kernel_rfl) (fun _ _ _ h => h) (Or.inl ⟨by rfl, ?_⟩) (by assumption) ?_
            rotate_left
            · (intro w hSw; (try dsimp only at hSw); obtain ⟨hs0, hs3, hs2⟩ := hSw; go_simp; try with_reducible rfl)
            try simp only [List.getElem_toArray, List.getElem_cons_succ, List.getElem_cons_zero, Act.put, List.setIfInBounds_toArray, List.set_cons_zero, List.set_cons_succ]
            refine wpAnyH_take (i := 6) (v := ?_) rfl (by kernel_rfl) (by kernel_rfl) (by kernel_rfl) (fun _ _ _ h => h) (Or.inl ⟨by rfl, ?_⟩) (by assumption) ?_
            rotate_left
            · (intro w hSw; (try dsimp only at hSw); obtain ⟨hs0, hs3, hs2⟩ := hSw; go_simp; try with_reducible rfl)
            try simp only [List.getElem_toArray, List.getElem_cons_succ, List.getElem_cons_zero, Act.put, List.setIfInBounds_toArray, List.set_cons_zero, List.set_cons_succ]
            refine wpAnyH_take (i := 7) (v := ?_) rfl (by kernel_rfl) (by kernel_rfl) (by kernel_rfl) (fun _ _ _ h => h) (Or.inl ⟨by rfl, ?_⟩) (by assumption) ?_
            rotate_left
            · (intro w hSw; (try dsimp only at hSw); obtain ⟨hs0, hs3, hs2⟩ := hSw; go_simp; try with_reducible rfl)
            try simp only [List.getElem_toArray, List.getElem_cons_succ, List.getElem_cons_zero, Act.put, List.setIfInBounds_toArray, List.set_cons_zero, List.set_cons_succ]
            refine wpAnyH_take (i := 8) (v := ?_) rfl (by kernel_rfl) (by kernel_rfl) (by kernel_rfl) (fun _ _ _ h => h) (Or.inl ⟨by rfl, ?_⟩) (by assumption) ?_
            rotate_left
            · (intro w hSw; (try dsimp only at hSw); obtain ⟨hs0, hs3, hs2⟩ := hSw; go_simp; try with_reducible rfl)
            try simp only [List.getElem_toArray, List.getElem_cons_succ, List.getElem_cons_zero, Act.put, List.setIfInBounds_toArray, List.set_cons_zero, List.set_cons_succ]
            refine wpAnyH_take (i := 9) (v := ?_) rfl (by kernel_rfl) (by kernel_rfl) (by kernel_rfl) (fun _ _ _ h => h) (Or.inl ⟨by rfl, ?_⟩) (by assumption) ?_
            rotate_left
            · (intro w hSw; (try dsimp only at hSw); obtain ⟨hs0, hs3, hs2⟩ := hSw; go_simp; try with_reducible rfl)
            try simp only [List.getElem_toArray, List.getElem_cons_succ, List.getElem_cons_zero, Act.put, List.setIfInBounds_toArray, List.set_cons_zero, List.set_cons_succ]
            refine wpAnyH_take (i := 10) (v := ?_) rfl (by kernel_rfl) (by kernel_rfl) (by kernel_rfl) (fun _ _ _ h => h) (Or.inl ⟨by rfl, ?_⟩) (by assumption) ?_
            rotate_left
            · (intro w hSw; (try dsimp only at hSw); obtain ⟨hs0, hs3, hs2⟩ := hSw; go_simp; try with_reducible rfl)
            try simp only [List.getElem_toArray, List.getElem_cons_succ, List.getElem_cons_zero, Act.put, List.setIfInBounds_toArray, List.set_cons_zero, List.set_cons_succ]
            refine wpAnyH_take (i := 11) (v := ?_) rfl (by kernel_rfl) (by kernel_rfl) (by kernel_rfl) (fun _ _ _ h => h) (Or.inl ⟨by rfl, ?_⟩) (by assumption) ?_
            rotate_left
            · (intro w hSw; (try dsimp only at hSw); obtain ⟨hs0, hs3, hs2⟩ := hSw; go_simp; try with_reducible rfl)
            try simp only [List.getElem_toArray, List.getElem_cons_succ, List.getElem_cons_zero, Act.put, List.setIfInBounds_toArray, List.set_cons_zero, List.set_cons_succ]
            refine wpAnyH_take (i := 12) (v := ?_) rfl (by kernel_rfl) (by kernel_rfl) (by kernel_rfl) (fun _ _ _ h => h) (Or.inl ⟨by rfl, ?_⟩) (by assumption) ?_
            rotate_left
            · (intro w hSw; (try dsimp only at hSw); obtain ⟨hs0, hs3, hs2⟩ := hSw; go_simp; try with_reducible rfl)
            try simp only [List.getElem_toArray, List.getElem_cons_succ, List.getElem_cons_zero, Act.put, List.setIfInBounds_toArray, List.set_cons_zero, List.set_cons_succ]
            refine wpAnyH_take (i := 13) (v := ?_) rfl (by kernel_rfl) (by kernel_rfl) (by kernel_rfl) (fun _ _ _ h => h) (Or.inl ⟨by rfl, ?_⟩) (by assumption) ?_
            rotate_left
            · (intro w hSw; (try dsimp only at hSw); obtain ⟨hs0, hs3, hs2⟩ := hSw; go_simp; try with_reducible rfl)
            try simp only [List.getElem_toArray, List.getElem_cons_succ, List.getElem_cons_zero, Act.put, List.setIfInBounds_toArray, List.set_cons_zero, List.set_cons_succ]
            refine wpAnyH_take (i := 14) (v := ?_) rfl (by kernel_rfl) (by kernel_rfl) (by kernel_rfl) (fun _ _ _ h => h) (Or.inl ⟨by rfl, ?_⟩) (by assumption) ?_
            rotate_left
            · (intro w hSw; (try dsimp only at hSw); obtain ⟨hs0, hs3, hs2⟩ := hSw; go_simp; try with_reducible rfl)
            try simp only [List.getElem_toArray, List.getElem_cons_succ, List.getElem_cons_zero, Act.put, List.setIfInBounds_toArray, List.set_cons_zero, List.set_cons_succ]
            refine wpAnyH_take (i := 15) (v := ?_) rfl (by kernel_rfl) (by kernel_rfl) (by kernel_rfl) (fun _ _ _ h => h) (Or.inl ⟨by rfl, ?_⟩) (by assumption) ?_
            rotate_left
            · (intro w hSw; (try dsimp only at hSw); obtain ⟨hs0, hs3, hs2⟩ := hSw; go_simp; try with_reducible rfl)
            try simp only [List.getElem_toArray, List.getElem_cons_succ, List.getElem_cons_zero, Act.put, List.setIfInBounds_toArray, List.set_cons_zero, List.set_cons_succ]
            refine wpAnyH_take (i := 16) (v := ?_) rfl (by kernel_rfl) (by kernel_rfl) (by kernel_rfl) (fun _ _ _ h => h) (Or.inl ⟨by rfl, ?_⟩) (by assumption) ?_
            rotate_left
            · (intro w hSw; (try dsimp only at hSw); obtain ⟨hs0, hs3, hs2⟩ := hSw; go_simp; try with_reducible rfl)
            try simp only [List.getElem_toArray, List.getElem_cons_succ, List.getElem_cons_zero, Act.put, List.setIfInBounds_toArray, List.set_cons_zero, List.set_cons_succ]
            refine wpAnyH_take (i := 17) (v := ?_) rfl (by kernel_rfl) (by kernel_rfl) (by kernel_rfl) (fun _ _ _ h => h) (Or.inl ⟨by rfl, ?_⟩) (by assumption) ?_
            rotate_left
            · (intro w hSw; (try dsimp only at hSw); obtain ⟨hs0, hs3, hs2⟩ := hSw; go_simp; try with_reducible rfl)
            try simp only [List.getElem_toArray, List.getElem_cons_succ, List.getElem_cons_zero, Act.put, List.setIfInBounds_toArray, List.set_cons_zero, List.set_cons_succ]
            refine wpAnyH_take (i := 18) (v := ?_) rfl (by kernel_rfl) (by kernel_rfl) (by kernel_rfl) (fun _ _ _ h => h) (Or.inl ⟨by rfl, ?_⟩) (by assumption) ?_
            rotate_left
            · (intro w hSw; (try dsimp only at hSw); obtain ⟨hs0, hs3, hs2⟩ := hSw; go_simp; try with_reducible rfl)
            try simp only [List.getElem_toArray, List.getElem_cons_succ, List.getElem_cons_zero, Act.put, List.setIfInBounds_toArray, List.set_cons_zero, List.set_cons_succ]
            refine wpAnyH_take (i := 19) (v := ?_) rfl (by kernel_rfl) (by kernel_rfl) (by kernel_rfl) (fun _ _ _ h => h) (Or.inl ⟨by rfl, ?_⟩) (by assumption) ?_
            rotate_left
            · (intro w hSw; (try dsimp only at hSw); obtain ⟨hs0, hs3, hs2⟩ := hSw; go_simp; try with_reducible rfl)
            try simp only [List.getElem_toArray, List.getElem_cons_succ, List.getElem_cons_zero, Act.put, List.setIfInBounds_toArray, List.set_cons_zero, List.set_cons_succ]
            refine wpAnyH_take (i := 20) (v := ?_) rfl (by kernel_rfl) (by kernel_rfl) (by kernel_rfl) (fun _ _ _ h => h) (Or.inl ⟨by rfl, ?_⟩) (by assumption) ?_
            rotate_left
            · (intro w hSw; (try dsimp only at hSw); obtain ⟨hs0, hs3, hs2⟩ := hSw; go_simp; try with_reducible rfl)
            try simp only [List.getElem_toArray, List.getElem_cons_succ, List.getElem_cons_zero, Act.put, List.setIfInBounds_toArray, List.set_cons_zero, List.set_cons_succ]
            refine wpAnyH_take (i := 21) (v := ?_) rfl (by kernel_rfl) (by kernel_rfl) (by kernel_rfl) (fun _ _ _ h => h) (Or.inl ⟨by rfl, ?_⟩) (by assumption) ?_
            rotate_left
            · (intro w hSw; (try dsimp only at hSw); obtain ⟨hs0, hs3, hs2⟩ := hSw; go_simp; try with_reducible rfl)
            try simp only [List.getElem_toArray, List.getElem_cons_succ, List.getElem_cons_zero, Act.put, List.setIfInBounds_toArray, List.set_cons_zero, List.set_cons_succ]
            refine wpAnyH_take (i := 22) (v := ?_) rfl (by kernel_rfl) (by kernel_rfl) (by kernel_rfl) (fun _ _ _ h => h) (Or.inl ⟨by rfl, ?_⟩) (by assumption) ?_
            rotate_left
            · (intro w hSw; (try dsimp only at hSw); obtain ⟨hs0, hs3, hs2⟩ := hSw; go_simp; try with_reducible rfl)
            try simp only [List.getElem_toArray, List.getElem_cons_succ, List.getElem_cons_zero, Act.put, List.setIfInBounds_toArray, List.set_cons_zero, List.set_cons_succ]
            have HOD := Lib.hid (own_below HO.out HG0.out)
            have HBD := Lib.hid (HB.out.trans (HG0.out.mono HB.out.size))
            have hBd := HBD.out.size
            have HAL : Hid (Below wr.heap.size wr (wd.alloc (.cells #[.string (bstr r.ask.id), .string (bstr r.ask.pre), .int .i64 0, .int .i64 253402300800, .int .i64 r.ask.at_, .int .i64 (253402300800), .int .i64 r.ask.at_, .int .i64 4, .string ⟨#[]⟩] 32))) := Lib.hid (HG0.out.trans (((Below.refl wd.heap.size wd).alloc (Nat.le_refl _) (.cells #[.string (bstr r.ask.id), .string (bstr r.ask.pre), .int .i64 0, .int .i64 253402300800, .int .i64 r.ask.at_, .int .i64 (253402300800), .int .i64 r.ask.at_, .int .i64 4, .string ⟨#[]⟩] 32)).mono HG0.out.size))
            refine wpAnyH_ready (rs := [23]) (by kernel_rfl) (by simp) ?_
            refine AllReadyH.cons rfl (fun K hK => ?_) AllReadyH.nil
            rw [if_pos (by rfl)]
            simp only [List.getElem_toArray, List.getElem_cons_succ, List.getElem_cons_zero]
            go_simp
            refine hK.out _ _ (KEEP.out _ HAL.out) (fun hHeld => ?_)
            clear hK K
            try simp only [List.getElem_toArray, List.getElem_cons_succ, List.getElem_cons_zero, Act.put, List.setIfInBounds_toArray, List.set_cons_zero, List.set_cons_succ]
            refine wpAnyH_ready (rs := [24]) (by kernel_rfl) (by simp) ?_
            refine AllReadyH.cons rfl (fun K hK => ?_) AllReadyH.nil
            refine step_app_new (w := wd) (by rfl) (.tmp 59) (.tmp 82) 27 (by rfl) 32 (.agg #[.string ⟨#[]⟩, .string ⟨#[]⟩, .int .i64 0, .int .i64 0, .int .i64 0, .int .i64 0, .int .i64 0, .int .i64 0, .string ⟨#[]⟩]) 9 96 Tryd.underlying27 rgt_info rfl (by decide) (m := 1) [.string (bstr r.ask.id), .string (bstr r.ask.pre), .int .i64 0, .int .i64 253402300800, .int .i64 r.ask.at_, .int .i64 (253402300800), .int .i64 r.ask.at_, .int .i64 4, .string ⟨#[]⟩] 0 rfl HOD.out hBd rfl rfl rfl (by decide) (by simp [Value.oneCell']) (by unfold maxLen; omega) (by omega) ?_
            intro g9 c9 w9 HO9 HG9 HE9 HL9
            have HB9 := Lib.hid (HBD.out.grown HG9.out hBd (fun j hj => (HOD.out.lt j hj).1))
            have HK9 := Lib.hid (((HKR.out.same (same_below HG0.out) HKR.out.lt).same (grown_same HG9.out) ⟨Nat.lt_of_lt_of_le HKR.out.lt HG0.out.size, blk_not_row (HKR.out.same (same_below HG0.out) HKR.out.lt) HOD.out (by decide)⟩))
            refine hK.out _ _ ⟨HK9.out.cell 0, HK9.out.cell 3, HK9.out.cell 2⟩ (fun hHeld => ?_)
            clear hK K
            try simp only [List.getElem_toArray, List.getElem_cons_succ, List.getElem_cons_zero, Act.put, List.setIfInBounds_toArray, List.set_cons_zero, List.set_cons_succ]
            refine wpAnyH_take (i := 25) (v := ?_) rfl (by kernel_rfl) (by kernel_rfl) (by kernel_rfl) (fun _ _ _ h => h) (Or.inl ⟨by rfl, ?_⟩) (by assumption) ?_
            rotate_left
            · (intro w hSw; (try dsimp only at hSw); obtain ⟨hs0, hs3, hs2⟩ := hSw; go_simp; try with_reducible rfl)
            try simp only [List.getElem_toArray, List.getElem_cons_succ, List.getElem_cons_zero, Act.put, List.setIfInBounds_toArray, List.set_cons_zero, List.set_cons_succ]
            refine wpAnyH_done (by kernel_rfl) ?_ _
            clear hHeld
            have HON : Hid (w9.ownsRow w1.heap.size 32 9 (.slice (some ⟨g9, 0, none⟩) (ts.length + 1) c9) (ts ++ tdOne r hold).length ((ts ++ tdOne r hold).flatMap rgtCells)) := Lib.hid (by
              have h9 := HO9.out
              rw [HT.out, List.flatMap_append, show ([tdRgt r hold].flatMap rgtCells) = rgtCells (tdRgt r hold) by simp, HTR.out, List.length_append]
              exact h9)
            clear HO9 HG9 HE9 HL9 HOD KEEP HAL HK9
            go_wp2_with fail
            go_roundw
            case rel => first | exact ⟨k + 1, _, rfl, by omega, by go_num, by rw [HNX.out]; exact HON, HB9⟩ | (repeat (apply Exists.intro); (refine And.intro ?_ ?_; rotate_left; (repeat' (first | exact rfl | apply And.intro)); exact ⟨k + 1, _, rfl, by omega, by go_num, by rw [HNX.out]; exact HON, HB9⟩))
            case measure => simp [intOf]; omega
        | false =>
          have HE : Hid (tdEnd r hold = min 253402300800 (r.ask.at_ + hold)) := Lib.hid (by rw [tdEnd, if_pos hg, HE0.out])
          rw [hg] at r5
          by_cases hd : min 253402300800 (r.ask.at_ + hold) ≤ r.ask.at_
          · have HT : Hid (tdOne r hold = []) := Lib.hid (if_pos (by rw [HE.out]; exact hd))
            clear HE
            go_wp2_with fail
            clear r0 r2 r3 r5 r6 p0
            go_roundw
            case rel => first | exact ⟨k + 1, _, rfl, by omega, by go_num, by rw [HNX.out, HT.out, List.append_nil]; exact HO, HB⟩ | (repeat (apply Exists.intro); (refine And.intro ?_ ?_; rotate_left; (repeat' (first | exact rfl | apply And.intro)); exact ⟨k + 1, _, rfl, by omega, by go_num, by rw [HNX.out, HT.out, List.append_nil]; exact HO, HB⟩))
            case measure => simp [intOf]; omega
          · have HT : Hid (tdOne r hold = [tdRgt r hold]) := Lib.hid (if_neg (by rw [HE.out]; exact hd))
            have HTR : Hid (rgtCells (tdRgt r hold) = [.string (bstr r.ask.id), .string (bstr r.ask.pre), .int .i64 0, .int .i64 253402300800, .int .i64 r.ask.at_, .int .i64 (min 253402300800 (r.ask.at_ + hold)), .int .i64 r.ask.at_, .int .i64 4, .string ⟨#[]⟩]) := Lib.hid (by rw [tdRgt, HE.out]; rfl)
            clear HE
            go_wp2_with fail
            have KEEP : Hid (∀ w', Below wr.heap.size wr w' → (w'.cell? ⟨q, 0, none⟩ = some (.string (bstr r.ask.id)) ∧ w'.cell? ⟨q, 3, none⟩ = some (.string (bstr r.ask.pre)) ∧ w'.cell? ⟨q, 2, none⟩ = some (.int .i64 r.ask.at_))) := Lib.hid (fun w' hg => by
              have h := HKR.out.same (same_below hg) HKR.out.lt
              exact ⟨h.cell 0, h.cell 3, h.cell 2⟩)
            clear r0 r2 r3 r5 r6 p0
            refine wp_region_held_drew (S := fun w' => w'.cell? ⟨q, 0, none⟩ = some (.string (bstr r.ask.id)) ∧ w'.cell? ⟨q, 3, none⟩ = some (.string (bstr r.ask.pre)) ∧ w'.cell? ⟨q, 2, none⟩ = some (.int .i64 r.ask.at_)) (by kernel_rfl) (KEEP.out _ (Below.drew (Below.refl _ _))) (fun hHeld => ?_)
            obtain ⟨wd, hwd⟩ : ∃ wd, wd = World.drew wr := ⟨_, rfl⟩
            have HG0 : Hid (Below wr.heap.size wr wd) := Lib.hid (by rw [hwd]; exact Below.drew (Below.refl _ _))
            rw [← hwd] at hHeld ⊢
            clear hwd
            refine wpAnyH_take (i := 0) (v := ?_) rfl (by kernel_rfl) (by kernel_rfl) (by kernel_rfl) (fun _ _ _ h => h) (Or.inl ⟨by rfl, ?_⟩) (by assumption) ?_
            rotate_left
            · (intro w hSw; (try dsimp only at hSw); obtain ⟨hs0, hs3, hs2⟩ := hSw; go_simp; try with_reducible rfl)
            try simp only [List.getElem_toArray, List.getElem_cons_succ, List.getElem_cons_zero, Act.put, List.setIfInBounds_toArray, List.set_cons_zero, List.set_cons_succ]
            refine wpAnyH_take (i := 1) (v := ?_) rfl (by kernel_rfl) (by kernel_rfl) (by kernel_rfl) (fun _ _ _ h => h) (Or.inl ⟨by rfl, ?_⟩) (by assumption) ?_
            rotate_left
            · (intro w hSw; (try dsimp only at hSw); obtain ⟨hs0, hs3, hs2⟩ := hSw; go_simp; try with_reducible rfl)
            try simp only [List.getElem_toArray, List.getElem_cons_succ, List.getElem_cons_zero, Act.put, List.setIfInBounds_toArray, List.set_cons_zero, List.set_cons_succ]
            refine wpAnyH_take (i := 2) (v := ?_) rfl (by kernel_rfl) (by kernel_rfl) (by kernel_rfl) (fun _ _ _ h => h) (Or.inl ⟨by rfl, ?_⟩) (by assumption) ?_
            rotate_left
            · (intro w hSw; (try dsimp only at hSw); obtain ⟨hs0, hs3, hs2⟩ := hSw; go_simp; try with_reducible rfl)
            try simp only [List.getElem_toArray, List.getElem_cons_succ, List.getElem_cons_zero, Act.put, List.setIfInBounds_toArray, List.set_cons_zero, List.set_cons_succ]
            refine wpAnyH_take (i := 3) (v := ?_) rfl (by kernel_rfl) (by kernel_rfl) (by kernel_rfl) (fun _ _ _ h => h) (Or.inl ⟨by rfl, ?_⟩) (by assumption) ?_
            rotate_left
            · (intro w hSw; (try dsimp only at hSw); obtain ⟨hs0, hs3, hs2⟩ := hSw; go_simp; try with_reducible rfl)
            try simp only [List.getElem_toArray, List.getElem_cons_succ, List.getElem_cons_zero, Act.put, List.setIfInBounds_toArray, List.set_cons_zero, List.set_cons_succ]
            refine wpAnyH_take (i := 4) (v := ?_) rfl (by kernel_rfl) (by kernel_rfl) (by kernel_rfl) (fun _ _ _ h => h) (Or.inl ⟨by rfl, ?_⟩) (by assumption) ?_
            rotate_left
            · (intro w hSw; (try dsimp only at hSw); obtain ⟨hs0, hs3, hs2⟩ := hSw; go_simp; try with_reducible rfl)
            try simp only [List.getElem_toArray, List.getElem_cons_succ, List.getElem_cons_zero, Act.put, List.setIfInBounds_toArray, List.set_cons_zero, List.set_cons_succ]
            refine wpAnyH_take (i := 5) (v := ?_) rfl (by kernel_rfl) (by kernel_rfl) (by kernel_rfl) (fun _ _ _ h => h) (Or.inl ⟨by rfl, ?_⟩) (by assumption) ?_
            rotate_left
            · (intro w hSw; (try dsimp only at hSw); obtain ⟨hs0, hs3, hs2⟩ := hSw; go_simp; try with_reducible rfl)
            try simp only [List.getElem_toArray, List.getElem_cons_succ, List.getElem_cons_zero, Act.put, List.setIfInBounds_toArray, List.set_cons_zero, List.set_cons_succ]
            refine wpAnyH_take (i := 6) (v := ?_) rfl (by kernel_rfl) (by kernel_rfl) (by kernel_rfl) (fun _ _ _ h => h) (Or.inl ⟨by rfl, ?_⟩) (by assumption) ?_
            rotate_left
            · (intro w hSw; (try dsimp only at hSw); obtain ⟨hs0, hs3, hs2⟩ := hSw; go_simp; try with_reducible rfl)
            try simp only [List.getElem_toArray, List.getElem_cons_succ, List.getElem_cons_zero, Act.put, List.setIfInBounds_toArray, List.set_cons_zero, List.set_cons_succ]
            refine wpAnyH_take (i := 7) (v := ?_) rfl (by kernel_rfl) (by kernel_rfl) (by kernel_rfl) (fun _ _ _ h => h) (Or.inl ⟨by rfl, ?_⟩) (by assumption) ?_
            rotate_left
            · (intro w hSw; (try dsimp only at hSw); obtain ⟨hs0, hs3, hs2⟩ := hSw; go_simp; try with_reducible rfl)
            try simp only [List.getElem_toArray, List.getElem_cons_succ, List.getElem_cons_zero, Act.put, List.setIfInBounds_toArray, List.set_cons_zero, List.set_cons_succ]
            refine wpAnyH_take (i := 8) (v := ?_) rfl (by kernel_rfl) (by kernel_rfl) (by kernel_rfl) (fun _ _ _ h => h) (Or.inl ⟨by rfl, ?_⟩) (by assumption) ?_
            rotate_left
            · (intro w hSw; (try dsimp only at hSw); obtain ⟨hs0, hs3, hs2⟩ := hSw; go_simp; try with_reducible rfl)
            try simp only [List.getElem_toArray, List.getElem_cons_succ, List.getElem_cons_zero, Act.put, List.setIfInBounds_toArray, List.set_cons_zero, List.set_cons_succ]
            refine wpAnyH_take (i := 9) (v := ?_) rfl (by kernel_rfl) (by kernel_rfl) (by kernel_rfl) (fun _ _ _ h => h) (Or.inl ⟨by rfl, ?_⟩) (by assumption) ?_
            rotate_left
            · (intro w hSw; (try dsimp only at hSw); obtain ⟨hs0, hs3, hs2⟩ := hSw; go_simp; try with_reducible rfl)
            try simp only [List.getElem_toArray, List.getElem_cons_succ, List.getElem_cons_zero, Act.put, List.setIfInBounds_toArray, List.set_cons_zero, List.set_cons_succ]
            refine wpAnyH_take (i := 10) (v := ?_) rfl (by kernel_rfl) (by kernel_rfl) (by kernel_rfl) (fun _ _ _ h => h) (Or.inl ⟨by rfl, ?_⟩) (by assumption) ?_
            rotate_left
            · (intro w hSw; (try dsimp only at hSw); obtain ⟨hs0, hs3, hs2⟩ := hSw; go_simp; try with_reducible rfl)
            try simp only [List.getElem_toArray, List.getElem_cons_succ, List.getElem_cons_zero, Act.put, List.setIfInBounds_toArray, List.set_cons_zero, List.set_cons_succ]
            refine wpAnyH_take (i := 11) (v := ?_) rfl (by kernel_rfl) (by kernel_rfl) (by kernel_rfl) (fun _ _ _ h => h) (Or.inl ⟨by rfl, ?_⟩) (by assumption) ?_
            rotate_left
            · (intro w hSw; (try dsimp only at hSw); obtain ⟨hs0, hs3, hs2⟩ := hSw; go_simp; try with_reducible rfl)
            try simp only [List.getElem_toArray, List.getElem_cons_succ, List.getElem_cons_zero, Act.put, List.setIfInBounds_toArray, List.set_cons_zero, List.set_cons_succ]
            refine wpAnyH_take (i := 12) (v := ?_) rfl (by kernel_rfl) (by kernel_rfl) (by kernel_rfl) (fun _ _ _ h => h) (Or.inl ⟨by rfl, ?_⟩) (by assumption) ?_
            rotate_left
            · (intro w hSw; (try dsimp only at hSw); obtain ⟨hs0, hs3, hs2⟩ := hSw; go_simp; try with_reducible rfl)
            try simp only [List.getElem_toArray, List.getElem_cons_succ, List.getElem_cons_zero, Act.put, List.setIfInBounds_toArray, List.set_cons_zero, List.set_cons_succ]
            refine wpAnyH_take (i := 13) (v := ?_) rfl (by kernel_rfl) (by kernel_rfl) (by kernel_rfl) (fun _ _ _ h => h) (Or.inl ⟨by rfl, ?_⟩) (by assumption) ?_
            rotate_left
            · (intro w hSw; (try dsimp only at hSw); obtain ⟨hs0, hs3, hs2⟩ := hSw; go_simp; try with_reducible rfl)
            try simp only [List.getElem_toArray, List.getElem_cons_succ, List.getElem_cons_zero, Act.put, List.setIfInBounds_toArray, List.set_cons_zero, List.set_cons_succ]
            refine wpAnyH_take (i := 14) (v := ?_) rfl (by kernel_rfl) (by kernel_rfl) (by kernel_rfl) (fun _ _ _ h => h) (Or.inl ⟨by rfl, ?_⟩) (by assumption) ?_
            rotate_left
            · (intro w hSw; (try dsimp only at hSw); obtain ⟨hs0, hs3, hs2⟩ := hSw; go_simp; try with_reducible rfl)
            try simp only [List.getElem_toArray, List.getElem_cons_succ, List.getElem_cons_zero, Act.put, List.setIfInBounds_toArray, List.set_cons_zero, List.set_cons_succ]
            refine wpAnyH_take (i := 15) (v := ?_) rfl (by kernel_rfl) (by kernel_rfl) (by kernel_rfl) (fun _ _ _ h => h) (Or.inl ⟨by rfl, ?_⟩) (by assumption) ?_
            rotate_left
            · (intro w hSw; (try dsimp only at hSw); obtain ⟨hs0, hs3, hs2⟩ := hSw; go_simp; try with_reducible rfl)
            try simp only [List.getElem_toArray, List.getElem_cons_succ, List.getElem_cons_zero, Act.put, List.setIfInBounds_toArray, List.set_cons_zero, List.set_cons_succ]
            refine wpAnyH_take (i := 16) (v := ?_) rfl (by kernel_rfl) (by kernel_rfl) (by kernel_rfl) (fun _ _ _ h => h) (Or.inl ⟨by rfl, ?_⟩) (by assumption) ?_
            rotate_left
            · (intro w hSw; (try dsimp only at hSw); obtain ⟨hs0, hs3, hs2⟩ := hSw; go_simp; try with_reducible rfl)
            try simp only [List.getElem_toArray, List.getElem_cons_succ, List.getElem_cons_zero, Act.put, List.setIfInBounds_toArray, List.set_cons_zero, List.set_cons_succ]
            refine wpAnyH_take (i := 17) (v := ?_) rfl (by kernel_rfl) (by kernel_rfl) (by kernel_rfl) (fun _ _ _ h => h) (Or.inl ⟨by rfl, ?_⟩) (by assumption) ?_
            rotate_left
            · (intro w hSw; (try dsimp only at hSw); obtain ⟨hs0, hs3, hs2⟩ := hSw; go_simp; try with_reducible rfl)
            try simp only [List.getElem_toArray, List.getElem_cons_succ, List.getElem_cons_zero, Act.put, List.setIfInBounds_toArray, List.set_cons_zero, List.set_cons_succ]
            refine wpAnyH_take (i := 18) (v := ?_) rfl (by kernel_rfl) (by kernel_rfl) (by kernel_rfl) (fun _ _ _ h => h) (Or.inl ⟨by rfl, ?_⟩) (by assumption) ?_
            rotate_left
            · (intro w hSw; (try dsimp only at hSw); obtain ⟨hs0, hs3, hs2⟩ := hSw; go_simp; try with_reducible rfl)
            try simp only [List.getElem_toArray, List.getElem_cons_succ, List.getElem_cons_zero, Act.put, List.setIfInBounds_toArray, List.set_cons_zero, List.set_cons_succ]
            refine wpAnyH_take (i := 19) (v := ?_) rfl (by kernel_rfl) (by kernel_rfl) (by kernel_rfl) (fun _ _ _ h => h) (Or.inl ⟨by rfl, ?_⟩) (by assumption) ?_
            rotate_left
            · (intro w hSw; (try dsimp only at hSw); obtain ⟨hs0, hs3, hs2⟩ := hSw; go_simp; try with_reducible rfl)
            try simp only [List.getElem_toArray, List.getElem_cons_succ, List.getElem_cons_zero, Act.put, List.setIfInBounds_toArray, List.set_cons_zero, List.set_cons_succ]
            refine wpAnyH_take (i := 20) (v := ?_) rfl (by kernel_rfl) (by kernel_rfl) (by kernel_rfl) (fun _ _ _ h => h) (Or.inl ⟨by rfl, ?_⟩) (by assumption) ?_
            rotate_left
            · (intro w hSw; (try dsimp only at hSw); obtain ⟨hs0, hs3, hs2⟩ := hSw; go_simp; try with_reducible rfl)
            try simp only [List.getElem_toArray, List.getElem_cons_succ, List.getElem_cons_zero, Act.put, List.setIfInBounds_toArray, List.set_cons_zero, List.set_cons_succ]
            refine wpAnyH_take (i := 21) (v := ?_) rfl (by kernel_rfl) (by kernel_rfl) (by kernel_rfl) (fun _ _ _ h => h) (Or.inl ⟨by rfl, ?_⟩) (by assumption) ?_
            rotate_left
            · (intro w hSw; (try dsimp only at hSw); obtain ⟨hs0, hs3, hs2⟩ := hSw; go_simp; try with_reducible rfl)
            try simp only [List.getElem_toArray, List.getElem_cons_succ, List.getElem_cons_zero, Act.put, List.setIfInBounds_toArray, List.set_cons_zero, List.set_cons_succ]
            refine wpAnyH_take (i := 22) (v := ?_) rfl (by kernel_rfl) (by kernel_rfl) (by kernel_rfl) (fun _ _ _ h => h) (Or.inl ⟨by rfl, ?_⟩) (by assumption) ?_
            rotate_left
            · (intro w hSw; (try dsimp only at hSw); obtain ⟨hs0, hs3, hs2⟩ := hSw; go_simp; try with_reducible rfl)
            try simp only [List.getElem_toArray, List.getElem_cons_succ, List.getElem_cons_zero, Act.put, List.setIfInBounds_toArray, List.set_cons_zero, List.set_cons_succ]
            have HOD := Lib.hid (own_below HO.out HG0.out)
            have HBD := Lib.hid (HB.out.trans (HG0.out.mono HB.out.size))
            have hBd := HBD.out.size
            have HAL : Hid (Below wr.heap.size wr (wd.alloc (.cells #[.string (bstr r.ask.id), .string (bstr r.ask.pre), .int .i64 0, .int .i64 253402300800, .int .i64 r.ask.at_, .int .i64 (min 253402300800 (r.ask.at_ + hold)), .int .i64 r.ask.at_, .int .i64 4, .string ⟨#[]⟩] 32))) := Lib.hid (HG0.out.trans (((Below.refl wd.heap.size wd).alloc (Nat.le_refl _) (.cells #[.string (bstr r.ask.id), .string (bstr r.ask.pre), .int .i64 0, .int .i64 253402300800, .int .i64 r.ask.at_, .int .i64 (min 253402300800 (r.ask.at_ + hold)), .int .i64 r.ask.at_, .int .i64 4, .string ⟨#[]⟩] 32)).mono HG0.out.size))
            refine wpAnyH_ready (rs := [23]) (by kernel_rfl) (by simp) ?_
            refine AllReadyH.cons rfl (fun K hK => ?_) AllReadyH.nil
            rw [if_pos (by rfl)]
            simp only [List.getElem_toArray, List.getElem_cons_succ, List.getElem_cons_zero]
            go_simp
            refine hK.out _ _ (KEEP.out _ HAL.out) (fun hHeld => ?_)
            clear hK K
            try simp only [List.getElem_toArray, List.getElem_cons_succ, List.getElem_cons_zero, Act.put, List.setIfInBounds_toArray, List.set_cons_zero, List.set_cons_succ]
            refine wpAnyH_ready (rs := [24]) (by kernel_rfl) (by simp) ?_
            refine AllReadyH.cons rfl (fun K hK => ?_) AllReadyH.nil
            refine step_app_new (w := wd) (by rfl) (.tmp 59) (.tmp 82) 27 (by rfl) 32 (.agg #[.string ⟨#[]⟩, .string ⟨#[]⟩, .int .i64 0, .int .i64 0, .int .i64 0, .int .i64 0, .int .i64 0, .int .i64 0, .string ⟨#[]⟩]) 9 96 Tryd.underlying27 rgt_info rfl (by decide) (m := 1) [.string (bstr r.ask.id), .string (bstr r.ask.pre), .int .i64 0, .int .i64 253402300800, .int .i64 r.ask.at_, .int .i64 (min 253402300800 (r.ask.at_ + hold)), .int .i64 r.ask.at_, .int .i64 4, .string ⟨#[]⟩] 0 rfl HOD.out hBd rfl rfl rfl (by decide) (by simp [Value.oneCell']) (by unfold maxLen; omega) (by omega) ?_
            intro g9 c9 w9 HO9 HG9 HE9 HL9
            have HB9 := Lib.hid (HBD.out.grown HG9.out hBd (fun j hj => (HOD.out.lt j hj).1))
            have HK9 := Lib.hid (((HKR.out.same (same_below HG0.out) HKR.out.lt).same (grown_same HG9.out) ⟨Nat.lt_of_lt_of_le HKR.out.lt HG0.out.size, blk_not_row (HKR.out.same (same_below HG0.out) HKR.out.lt) HOD.out (by decide)⟩))
            refine hK.out _ _ ⟨HK9.out.cell 0, HK9.out.cell 3, HK9.out.cell 2⟩ (fun hHeld => ?_)
            clear hK K
            try simp only [List.getElem_toArray, List.getElem_cons_succ, List.getElem_cons_zero, Act.put, List.setIfInBounds_toArray, List.set_cons_zero, List.set_cons_succ]
            refine wpAnyH_take (i := 25) (v := ?_) rfl (by kernel_rfl) (by kernel_rfl) (by kernel_rfl) (fun _ _ _ h => h) (Or.inl ⟨by rfl, ?_⟩) (by assumption) ?_
            rotate_left
            · (intro w hSw; (try dsimp only at hSw); obtain ⟨hs0, hs3, hs2⟩ := hSw; go_simp; try with_reducible rfl)
            try simp only [List.getElem_toArray, List.getElem_cons_succ, List.getElem_cons_zero, Act.put, List.setIfInBounds_toArray, List.set_cons_zero, List.set_cons_succ]
            refine wpAnyH_done (by kernel_rfl) ?_ _
            clear hHeld
            have HON : Hid (w9.ownsRow w1.heap.size 32 9 (.slice (some ⟨g9, 0, none⟩) (ts.length + 1) c9) (ts ++ tdOne r hold).length ((ts ++ tdOne r hold).flatMap rgtCells)) := Lib.hid (by
              have h9 := HO9.out
              rw [HT.out, List.flatMap_append, show ([tdRgt r hold].flatMap rgtCells) = rgtCells (tdRgt r hold) by simp, HTR.out, List.length_append]
              exact h9)
            clear HO9 HG9 HE9 HL9 HOD KEEP HAL HK9
            go_wp2_with fail
            go_roundw
            case rel => first | exact ⟨k + 1, _, rfl, by omega, by go_num, by rw [HNX.out]; exact HON, HB9⟩ | (repeat (apply Exists.intro); (refine And.intro ?_ ?_; rotate_left; (repeat' (first | exact rfl | apply And.intro)); exact ⟨k + 1, _, rfl, by omega, by go_num, by rw [HNX.out]; exact HON, HB9⟩))
            case measure => simp [intOf]; omega
    · have hke : k = rs.length := by omega
      subst hke
      have HQ : Hid (tdAt rs hold rs.length = all) := Lib.hid HAL.out.symm
      rw [HQ.out] at HO hl0
      clear HQ HAL
      obtain ⟨Av, cv, hvv, hcv1, hcv2, _⟩ := own_form HO.out
      subst hvv
      by_cases h3 : 300 < all.length
      · have HF : Hid (tdF l hold = 2) := Lib.hid (HF3.out h3)
        have h3' : (300 : Int) < (all.length : Int) := by omega
        go_wp2_with fail
        go_ret2
        exact td_bad HF.out (by decide) HBW.out
      · have HF : Hid (tdF l hold = 0) := Lib.hid (HF4.out h3)
        have h3' : ¬ (300 : Int) < (all.length : Int) := by omega
        go_wp2_with fail
        go_ret2
        exact ⟨.slice Av all.length cv, by rw [HF.out]; rfl, by rw [tdV_ok HF.out, HTA.out]; exact World.ownsRow.mono HO.out HB1.out.size, HBW.out⟩
end Go.Proofs.YtgbpnghgcffkbaaDoor
