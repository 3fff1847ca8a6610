/-
  'follow' of package rights.
-/
import Derived.Test.YtgbpnghgcffkbaaDoorFSt
import Derived.Test.YtgbpnghgcffkbaaDoorChkRights
namespace Go.Proofs.YtgbpnghgcffkbaaDoor
open Go.RowKit
set_option linter.unusedVariables false
set_option linter.unusedSimpArgs false

def folV (l : List App) (at_ : Int) : List Req := if appsFault l = 0 then nowAt l at_ l.length else []
def FolPost (l : List App) (at_ : Int) (w : World) (e : Ending) (w' : World) : Prop :=
  ∃ v hs, e = .returned (.tuple #[v, .int .i64 (appsFault l)]) ∧ RowR w.heap.size (folV l at_) hs v w' ∧ Below w.heap.size w w'
theorem fol_bad {l : List App} {at_ f : Int} {w w' : World} (hf : appsFault l = f) (hn : f ≠ 0) (hb : Below w.heap.size w w') : FolPost l at_ w (.returned (.tuple #[.slice none 0 0, .int .i64 f])) w' :=
  ⟨_, [], by rw [hf], by rw [folV, if_neg (by rw [hf]; exact hn)]; exact RowR.nil _ _, hb⟩
theorem ptr_info : (Tryd.prog.info? 46).map (fun i => (i.zero, i.size, i.bytes)) = some (some (.pointer none), 1, 8) := by kernel_rfl
theorem apps_1 {l : List App} (h : 500 < l.length) : appsFault l = 2 := if_pos h
theorem apps_2 {l : List App} (h : ¬ 500 < l.length) {i : Nat} (hi : i < l.length) (hS : ∀ j, j < i → folF l j = 0) {f : Int} (hf : folF l i = f) (hn : f ≠ 0) : appsFault l = f := by
  rw [appsFault, if_neg h, firstF_at hi hS (by rw [hf]; exact hn), hf]
theorem apps_3 {l : List App} (h : ¬ 500 < l.length) (hS : ∀ j, j < l.length → folF l j = 0) : appsFault l = 0 := by
  rw [appsFault, if_neg h, firstF_ok hS]
set_option maxRecDepth 100000 in
set_option maxHeartbeats 4000000 in
theorem follow_any (v : Value) (l : List App) (at_ : Int) (w : World) (h0 : (Rp.sl appRp).ok w (· < w.heap.size) [v] l) :
    Calls Tryd.prog 14 #[v, .int .i64 at_] w (FolPost l at_ w) := by
  obtain ⟨A, cc, rfl, hl, hc, _⟩ := Rp.sl_open h0
  unfold maxLen at hc
  have H0 := Lib.hid h0
  clear h0
  by_cases h5 : 500 < l.length
  · have HF := Lib.hid (apps_1 h5)
    have h5' : (500 : Int) < (l.length : Int) := by omega
    go_enter Tryd.func14, Tryd.ntmps14
    go_wp2_with fail
    go_ret2
    exact fol_bad HF.out (by decide) (Below.refl _ _)
  have h5' : ¬ (500 : Int) < (l.length : Int) := by omega
  have HM0 := Lib.hid (FSt.start w)
  have HB0 := Lib.hid ((Below.refl w.heap.size w).alloc (Nat.le_refl _) (.map #[] 0))
  have hmm := @run_makeMap Tryd.prog
  go_enter Tryd.func14, Tryd.ntmps14
  go_wp2_with fail
  clear hmm
  obtain ⟨B, hB⟩ : ∃ B, B = w.heap.size := ⟨_, rfl⟩
  have HBE := Lib.hid hB
  have HBS : Hid (B ≤ w.heap.size) := Lib.hid (by rw [hB]; exact Nat.le_refl _)
  rw [← hB] at HM0 HB0 ⊢
  clear hB
  go_loopw [7, 8, 24] (fun vo vn vi wr => ∃ (k n : Nat) (f : Lit → Option Value) (gs hs : List Nat) (ao an : Value), vo = ao ∧ vn = an ∧ k ≤ l.length ∧ vi = .int .i64 k ∧ n ≤ k ∧ Hid (∀ j, j < k → folF l j = 0) ∧ Hid (FSt B (rsAt l k) (nowAt l at_ k) gs hs ao an B n f wr) ∧ Hid (Below B w wr)) (fun _ _ vi _ => l.length - (intOf vi).toNat)
  case atStart => exact ⟨0, 0, fun _ => none, [], [], _, _, rfl, rfl, by omega, rfl, by omega, Lib.hid (fun j hj => absurd hj (by omega)), HM0, HB0⟩
  case round =>
    clear HM0 HB0
    obtain ⟨k, n, f, gs, hs, vo, vn, rfl, rfl, hk, rfl, hnk, HS, HM, HB⟩ := hrel
    by_cases hlt : k < l.length
    · obtain ⟨ad, c', e1, hadb, c0, c1, c2, c3, hz⟩ := app_at (Rp.below _ H0.out (by rw [← HBE.out]; exact HB.out)) hlt
      cases e1
      obtain ⟨hxi0, _, _, hxp0⟩ := hz
      have F1 : Hid (∀ f, folF l k = f → f ≠ 0 → appsFault l = f) := Lib.hid (fun f h h0 => apps_2 h5 hlt HS.out h h0)
      have G5 : Hid (folF l k = 0 → ∀ j, j < k + 1 → folF l j = 0) := Lib.hid (fun h => firstF_step HS.out h)
      have HHD : Hid (headF l k = if appF l[k] ≠ 0 then appF l[k] else if 0 < k ∧ l[k].at_ < (l.getD (k - 1) default).at_ then 8 else 0) := Lib.hid (by rw [headF, getD_at _ _ hlt])
      have HFO : Hid (folF l k = if headF l k ≠ 0 then headF l k else (stepR (rsAt l k) l[k]).1) := Lib.hid (by rw [folF, getD_at _ _ hlt])
      have HRS : Hid (rsAt l (k + 1) = (stepR (rsAt l k) l[k]).2) := Lib.hid (by rw [rsAt, getD_at _ _ hlt])
      have HNW : Hid (nowAt l at_ (k + 1) = if l[k].at_ ≤ at_ then rsAt l (k + 1) else nowAt l at_ k) := Lib.hid (by rw [nowAt, getD_at _ _ hlt])
      have HPV : Hid (∀ h0 : 0 < k, w.cell? ⟨(ad.add ((k - 1) * 4)).block, (ad.add ((k - 1) * 4)).off + 2, none⟩ = some (.int .i64 (l.getD (k - 1) default).at_) ∧ ad.block < w.heap.size) := Lib.hid (fun h0 => by
        obtain ⟨ad2, c2, e1, hb2, _, _, d2, _, _⟩ := app_at H0.out (show k - 1 < l.length by omega)
        cases e1
        exact ⟨by rw [getD_at l default (show k - 1 < l.length by omega)]; exact d2, hb2⟩)
      have hrl := rsAt_len l k
      have HDI := Lib.hid (rsAt_dist l k)
      generalize rsAt l k = rs at *
      generalize (l.getD (k - 1) default).at_ = py at *
      generalize hx : l[k] = x at *
      clear hx
      have hxi : x.id.length ≤ 9223372036854775807 := hxi0
      have hxp : x.pre.length ≤ 9223372036854775807 := hxp0
      have HXI := Lib.hid hxi0
      clear hxi0 hxp0
      have hal := (Below.refl wr.heap.size wr).alloc (Nat.le_refl _) (.cells #[.string (bstr x.id), .int .i64 x.kind, .int .i64 x.at_, .string (bstr x.pre)] 42)
      have HB4 := Lib.hid (HB.out.trans (hal.mono (Nat.le_trans HBS.out HB.out.size)))
      have HM4 := Lib.hid (HM.out.below hal)
      have HKX4 := Lib.hid (Blk.new wr 42 [.string (bstr x.id), .int .i64 x.kind, .int .i64 x.at_, .string (bstr x.pre)])
      clear hal HM
      have x0 : (wr.alloc (.cells #[.string (bstr x.id), .int .i64 x.kind, .int .i64 x.at_, .string (bstr x.pre)] 42)).cell? ⟨wr.heap.size, 0, none⟩ = some (.string (bstr x.id)) := HKX4.out.cell 0
      have x1 : (wr.alloc (.cells #[.string (bstr x.id), .int .i64 x.kind, .int .i64 x.at_, .string (bstr x.pre)] 42)).cell? ⟨wr.heap.size, 1, none⟩ = some (.int .i64 x.kind) := HKX4.out.cell 1
      have x2 : (wr.alloc (.cells #[.string (bstr x.id), .int .i64 x.kind, .int .i64 x.at_, .string (bstr x.pre)] 42)).cell? ⟨wr.heap.size, 2, none⟩ = some (.int .i64 x.at_) := HKX4.out.cell 2
      have x3 : (wr.alloc (.cells #[.string (bstr x.id), .int .i64 x.kind, .int .i64 x.at_, .string (bstr x.pre)] 42)).cell? ⟨wr.heap.size, 3, none⟩ = some (.string (bstr x.pre)) := HKX4.out.cell 3
      have hBw : B ≤ wr.heap.size := Nat.le_trans HBS.out HB.out.size
      go_wp2_with fail
      clear c0 c1 c2 c3 x0 x1 x2 x3
      obtain ⟨xb, hxb⟩ : ∃ xb, xb = wr.heap.size := ⟨_, rfl⟩
      rw [← hxb] at HKX4 ⊢
      have hBx : B ≤ xb := by omega
      clear hxb hBw HB
      generalize wr.alloc (.cells #[.string (bstr x.id), .int .i64 x.kind, .int .i64 x.at_, .string (bstr x.pre)] 42) = wr4 at *
      refine (checkAppeal_any x wr4 hxi hxp).mono ?_
      rintro e wr5 ⟨rfl, hb⟩
      have HB5 := Lib.hid (HB4.out.trans (hb.mono (Nat.le_trans HBS.out HB4.out.size)))
      have HM5 := Lib.hid (HM4.out.below hb)
      have HKX5 := Lib.hid (HKX4.out.same (same_below hb) HKX4.out.lt)
      clear hb HB4 HM4 HKX4
      have hBW5 : B ≤ wr5.heap.size := Nat.le_trans HBS.out HB5.out.size
      by_cases hq1 : appF x = 0
      case neg =>
        have HF : Hid (appsFault l = appF x) := Lib.hid (F1.out _ (by rw [HFO.out, HHD.out, if_pos hq1, if_pos hq1]) hq1)
        have HQ := Lib.hid hq1
        have hn : (appF x != 0) = true := by simpa using hq1
        clear hq1
        generalize appF x = ff at *
        go_wp2_with fail
        go_ret2
        exact fol_bad HF.out HQ.out (by rw [← HBE.out]; exact HB5.out)
      have HHD2 := Lib.hid (HHD.out.trans (if_neg (fun e => e hq1)))
      have HQ1 := Lib.hid hq1
      rw [hq1]
      clear hq1 HHD
      by_cases hk0 : k = 0
      · have zk : decide ((0 : Int) < (k : Int)) = false := decide_eq_false (by omega)
        have zk2 : ¬ (0 : Int) < (k : Int) := by omega
        have zk3 : decide (0 < k) = false := decide_eq_false (by omega)
        have KEEP : Hid (∀ w', Below wr5.heap.size wr5 w' → (w'.cell? ⟨xb, 2, none⟩ = some (.int .i64 x.at_))) := Lib.hid (fun w' hg => (HKX5.out.same (same_below hg) HKX5.out.lt).cell 2)
        have HOR : Hid ((if 0 < k ∧ x.at_ < py then (8 : Int) else 0) = 0) := Lib.hid (if_neg (fun e => absurd e.1 (by omega)))
        clear hk0
        go_wp2_with fail
        refine wp_region_held_drew (S := fun w' => w'.cell? ⟨xb, 2, none⟩ = some (.int .i64 x.at_)) (by kernel_rfl) (KEEP.out _ (Below.drew (Below.refl _ _))) (fun hHeld => ?_)
        obtain ⟨wq, hwq⟩ : ∃ wq, wq = World.drew wr5 := ⟨_, rfl⟩
        have HG0 : Hid (Below wr5.heap.size wr5 wq) := Lib.hid (by rw [hwq]; exact Below.drew (Below.refl _ _))
        rw [← hwq] at hHeld ⊢
        clear hwq
        refine wpAnyH_take (i := 0) (v := ?_) rfl (by kernel_rfl) (by kernel_rfl) (by kernel_rfl) (fun _ _ _ h => h) (Or.inl ⟨by rfl, ?_⟩) (by assumption) ?_
        rotate_left
        · (intro w hSw; (try dsimp only at hSw); go_simp; try with_reducible rfl)
        try simp only [List.getElem_toArray, List.getElem_cons_succ, List.getElem_cons_zero, Act.put, List.setIfInBounds_toArray, List.set_cons_zero, List.set_cons_succ]
        refine wpAnyH_take (i := 1) (v := ?_) rfl (by kernel_rfl) (by kernel_rfl) (by kernel_rfl) (fun _ _ _ h => h) (Or.inl ⟨by rfl, ?_⟩) (by assumption) ?_
        rotate_left
        · (intro w hSw; (try dsimp only at hSw); go_simp; try with_reducible rfl)
        try simp only [List.getElem_toArray, List.getElem_cons_succ, List.getElem_cons_zero, Act.put, List.setIfInBounds_toArray, List.set_cons_zero, List.set_cons_succ]
        refine wpAnyH_take (i := 2) (v := ?_) rfl (by kernel_rfl) (by kernel_rfl) (by kernel_rfl) (fun _ _ _ h => h) (Or.inl ⟨by rfl, ?_⟩) (by assumption) ?_
        rotate_left
        · (intro w hSw; (try dsimp only at hSw); go_simp; try with_reducible rfl)
        try simp only [List.getElem_toArray, List.getElem_cons_succ, List.getElem_cons_zero, Act.put, List.setIfInBounds_toArray, List.set_cons_zero, List.set_cons_succ]
        refine wpAnyH_take (i := 3) (v := undef) rfl (by kernel_rfl) (by kernel_rfl) (by kernel_rfl) (fun _ _ _ h => h) (Or.inr ⟨by rfl, rfl⟩) (by assumption) ?_
        try simp only [List.getElem_toArray, List.getElem_cons_succ, List.getElem_cons_zero, Act.put, List.setIfInBounds_toArray, List.set_cons_zero, List.set_cons_succ]
        refine wpAnyH_take (i := 4) (v := undef) rfl (by kernel_rfl) (by kernel_rfl) (by kernel_rfl) (fun _ _ _ h => h) (Or.inr ⟨by rfl, rfl⟩) (by assumption) ?_
        try simp only [List.getElem_toArray, List.getElem_cons_succ, List.getElem_cons_zero, Act.put, List.setIfInBounds_toArray, List.set_cons_zero, List.set_cons_succ]
        refine wpAnyH_take (i := 5) (v := undef) rfl (by kernel_rfl) (by kernel_rfl) (by kernel_rfl) (fun _ _ _ h => h) (Or.inr ⟨by rfl, rfl⟩) (by assumption) ?_
        try simp only [List.getElem_toArray, List.getElem_cons_succ, List.getElem_cons_zero, Act.put, List.setIfInBounds_toArray, List.set_cons_zero, List.set_cons_succ]
        refine wpAnyH_take (i := 6) (v := undef) rfl (by kernel_rfl) (by kernel_rfl) (by kernel_rfl) (fun _ _ _ h => h) (Or.inr ⟨by rfl, rfl⟩) (by assumption) ?_
        try simp only [List.getElem_toArray, List.getElem_cons_succ, List.getElem_cons_zero, Act.put, List.setIfInBounds_toArray, List.set_cons_zero, List.set_cons_succ]
        refine wpAnyH_take (i := 7) (v := undef) rfl (by kernel_rfl) (by kernel_rfl) (by kernel_rfl) (fun _ _ _ h => h) (Or.inr ⟨by rfl, rfl⟩) (by assumption) ?_
        try simp only [List.getElem_toArray, List.getElem_cons_succ, List.getElem_cons_zero, Act.put, List.setIfInBounds_toArray, List.set_cons_zero, List.set_cons_succ]
        refine wpAnyH_take (i := 8) (v := undef) rfl (by kernel_rfl) (by kernel_rfl) (by kernel_rfl) (fun _ _ _ h => h) (Or.inr ⟨by rfl, rfl⟩) (by assumption) ?_
        try simp only [List.getElem_toArray, List.getElem_cons_succ, List.getElem_cons_zero, Act.put, List.setIfInBounds_toArray, List.set_cons_zero, List.set_cons_succ]
        refine wpAnyH_take (i := 9) (v := undef) rfl (by kernel_rfl) (by kernel_rfl) (by kernel_rfl) (fun _ _ _ h => h) (Or.inr ⟨by rfl, rfl⟩) (by assumption) ?_
        try simp only [List.getElem_toArray, List.getElem_cons_succ, List.getElem_cons_zero, Act.put, List.setIfInBounds_toArray, List.set_cons_zero, List.set_cons_succ]
        refine wpAnyH_take (i := 10) (v := undef) rfl (by kernel_rfl) (by kernel_rfl) (by kernel_rfl) (fun _ _ _ h => h) (Or.inr ⟨by rfl, rfl⟩) (by assumption) ?_
        try simp only [List.getElem_toArray, List.getElem_cons_succ, List.getElem_cons_zero, Act.put, List.setIfInBounds_toArray, List.set_cons_zero, List.set_cons_succ]
        refine wpAnyH_take (i := 11) (v := undef) rfl (by kernel_rfl) (by kernel_rfl) (by kernel_rfl) (fun _ _ _ h => h) (Or.inr ⟨by rfl, rfl⟩) (by assumption) ?_
        try simp only [List.getElem_toArray, List.getElem_cons_succ, List.getElem_cons_zero, Act.put, List.setIfInBounds_toArray, List.set_cons_zero, List.set_cons_succ]
        refine wpAnyH_take (i := 12) (v := ?_) rfl (by kernel_rfl) (by kernel_rfl) (by kernel_rfl) (fun _ _ _ h => h) (Or.inl ⟨by rfl, ?_⟩) (by assumption) ?_
        rotate_left
        · (intro w hSw; (try dsimp only at hSw); go_simp; try with_reducible rfl)
        try simp only [List.getElem_toArray, List.getElem_cons_succ, List.getElem_cons_zero, Act.put, List.setIfInBounds_toArray, List.set_cons_zero, List.set_cons_succ]
        refine wpAnyH_done (by kernel_rfl) ?_ _
        clear hHeld KEEP HPV zk zk2 zk3
        have HM6 := Lib.hid (HM5.out.below HG0.out)
        have HB6 := Lib.hid (HB5.out.trans (HG0.out.mono hBW5))
        have HKX6 := Lib.hid (HKX5.out.same (same_below HG0.out) HKX5.out.lt)
        have HXL := Lib.hid HKX6.out.lt
        clear HM5 HB5 HKX5
        have hBW6 : B ≤ wq.heap.size := Nat.le_trans HBS.out HB6.out.size
        have hlk := HM6.out.map.look_ok (T := 64) (Maps.string_keyed Tryd.underlying9) Tryd.underlying64 (fun w => by kernel_rfl) (keyT x.id HXI.out) (by trivial)
        have hkey := HM6.out.key x.id
        rw [hkey] at hlk
        clear hkey
        have hHd : headF l k = 0 := by rw [HHD2.out]; exact HOR.out
        have HFO2 : Hid (folF l k = (stepR rs x).1) := Lib.hid (HFO.out.trans (if_neg (by rw [hHd]; decide)))
        clear hHd HFO
        have x0 : wq.cell? ⟨xb, 0, none⟩ = some (.string (bstr x.id)) := HKX6.out.cell 0
        have x1 : wq.cell? ⟨xb, 1, none⟩ = some (.int .i64 x.kind) := HKX6.out.cell 1
        have x2 : wq.cell? ⟨xb, 2, none⟩ = some (.int .i64 x.at_) := HKX6.out.cell 2
        have x3 : wq.cell? ⟨xb, 3, none⟩ = some (.string (bstr x.pre)) := HKX6.out.cell 3
        cases hix : reqIx rs x.id with
        | none =>
          rw [hix] at hlk
          simp only [Option.map_none, Option.getD_none, Option.isSome_none] at hlk
          by_cases hk1 : x.kind = 1
          case neg =>
            have HF : Hid (appsFault l = 9) := Lib.hid (F1.out _ (HFO2.out.trans (by unfold stepR; rw [hix]; simp [hk1])) (by decide))
            have hkb : (x.kind == (1 : Int)) = false := by simpa using hk1
            generalize x.kind = xk at *
            go_wp2_with fail
            go_ret2
            exact fol_bad HF.out (by decide) (by rw [← HBE.out]; exact HB6.out)
          have HST : Hid (stepR rs x = (0, rs ++ [newR x])) := Lib.hid (by unfold stepR; rw [hix]; simp [hk1])
          have HSN : Hid (∀ j, j < k + 1 → folF l j = 0) := Lib.hid (G5.out (HFO2.out.trans (by rw [HST.out])))
          have HRS2 : Hid (rsAt l (k + 1) = rs ++ [newR x]) := Lib.hid (HRS.out.trans (by rw [HST.out]))
          have HIX := Lib.hid hix
          have hkb : (x.kind == (1 : Int)) = true := by simpa using hk1
          have HK1 := Lib.hid hk1
          clear hix hk1 G5 F1 HRS HFO2 HST
          have HGL := Lib.hid HM6.out.o.len
          have HAL := Lib.hid ((Below.refl wq.heap.size wq).alloc (Nat.le_refl _) (.cells #[.string (bstr x.id), .int .i64 x.kind, .int .i64 x.at_, .string (bstr x.pre), .int .i64 2, .bool false, .int .i64 (-1)] 48))
          have HM7 := Lib.hid (HM6.out.below HAL.out)
          have HB7 := Lib.hid (HB6.out.trans (HAL.out.mono hBW6))
          have HKX7 := Lib.hid (HKX6.out.same (same_below HAL.out) HKX6.out.lt)
          have HKG7 : Hid (Blk (wq.alloc (.cells #[.string (bstr x.id), .int .i64 x.kind, .int .i64 x.at_, .string (bstr x.pre), .int .i64 2, .bool false, .int .i64 (-1)] 48)) wq.heap.size 48 (reqCells (newR x))) := Lib.hid (Blk.new wq 48 [.string (bstr x.id), .int .i64 x.kind, .int .i64 x.at_, .string (bstr x.pre), .int .i64 2, .bool false, .int .i64 (-1)])
          have HNG : Hid (wq.heap.size ∉ gs ∧ wq.heap.size ∉ hs) := Lib.hid ⟨fun h => by have := HM6.out.o.lt h; omega, fun h => by have := HM6.out.nw.lt h; omega⟩
          have HNB : Hid (∀ q, u8.ownBlock = some q → q < wq.heap.size) := Lib.hid (fun q hq => (HM6.out.nw.row.lt q hq).2)
          clear HM6 HB6 HKX6 HAL
          go_wp2_with fail
          clear x0 x1 x2 x3 hlk
          obtain ⟨gb, hgb⟩ : ∃ gb, gb = wq.heap.size := ⟨_, rfl⟩
          rw [← hgb] at HKG7 HNG ⊢
          have hBg : B ≤ gb := by omega
          have hgb7 : gb < (wq.alloc (.cells #[.string (bstr x.id), .int .i64 x.kind, .int .i64 x.at_, .string (bstr x.pre), .int .i64 2, .bool false, .int .i64 (-1)] 48)).heap.size := HKG7.out.lt
          rw [← hgb] at HNB
          clear hgb
          generalize wq.alloc (.cells #[.string (bstr x.id), .int .i64 x.kind, .int .i64 x.at_, .string (bstr x.pre), .int .i64 2, .bool false, .int .i64 (-1)] 48) = w7 at *
          have KEEP : Hid (∀ w', Below w7.heap.size w7 w' → (w'.cell? ⟨xb, 0, none⟩ = some (.string (bstr x.id)))) := Lib.hid (fun w' hg => (HKX7.out.same (same_below hg) HKX7.out.lt).cell 0)
          refine wp_region_held_drew (S := fun w' => w'.cell? ⟨xb, 0, none⟩ = some (.string (bstr x.id))) (by kernel_rfl) (KEEP.out _ (Below.drew (Below.refl _ _))) (fun hHeld => ?_)
          obtain ⟨wd, hwd⟩ : ∃ wd, wd = World.drew w7 := ⟨_, rfl⟩
          have HG0 : Hid (Below w7.heap.size w7 wd) := Lib.hid (by rw [hwd]; exact Below.drew (Below.refl _ _))
          rw [← hwd] at hHeld ⊢
          clear hwd
          refine wpAnyH_take (i := 0) (v := ?_) rfl (by kernel_rfl) (by kernel_rfl) (by kernel_rfl) (fun _ _ _ h => h) (Or.inl ⟨by rfl, ?_⟩) (by assumption) ?_
          rotate_left
          · (intro w hSw; (try dsimp only at hSw); go_simp; try with_reducible rfl)
          try simp only [List.getElem_toArray, List.getElem_cons_succ, List.getElem_cons_zero, Act.put, List.setIfInBounds_toArray, List.set_cons_zero, List.set_cons_succ]
          refine wpAnyH_take (i := 1) (v := ?_) rfl (by kernel_rfl) (by kernel_rfl) (by kernel_rfl) (fun _ _ _ h => h) (Or.inl ⟨by rfl, ?_⟩) (by assumption) ?_
          rotate_left
          · (intro w hSw; (try dsimp only at hSw); go_simp; try with_reducible rfl)
          try simp only [List.getElem_toArray, List.getElem_cons_succ, List.getElem_cons_zero, Act.put, List.setIfInBounds_toArray, List.set_cons_zero, List.set_cons_succ]
          refine wpAnyH_take (i := 2) (v := ?_) rfl (by kernel_rfl) (by kernel_rfl) (by kernel_rfl) (fun _ _ _ h => h) (Or.inl ⟨by rfl, ?_⟩) (by assumption) ?_
          rotate_left
          · (intro w hSw; (try dsimp only at hSw); go_simp; try with_reducible rfl)
          try simp only [List.getElem_toArray, List.getElem_cons_succ, List.getElem_cons_zero, Act.put, List.setIfInBounds_toArray, List.set_cons_zero, List.set_cons_succ]
          refine wpAnyH_take (i := 3) (v := ?_) rfl (by kernel_rfl) (by kernel_rfl) (by kernel_rfl) (fun _ _ _ h => h) (Or.inl ⟨by rfl, ?_⟩) (by assumption) ?_
          rotate_left
          · (intro w hSw; (try dsimp only at hSw); go_simp; try with_reducible rfl)
          try simp only [List.getElem_toArray, List.getElem_cons_succ, List.getElem_cons_zero, Act.put, List.setIfInBounds_toArray, List.set_cons_zero, List.set_cons_succ]
          refine wpAnyH_take (i := 4) (v := ?_) rfl (by kernel_rfl) (by kernel_rfl) (by kernel_rfl) (fun _ _ _ h => h) (Or.inl ⟨by rfl, ?_⟩) (by assumption) ?_
          rotate_left
          · (intro w hSw; (try dsimp only at hSw); go_simp; try with_reducible rfl)
          try simp only [List.getElem_toArray, List.getElem_cons_succ, List.getElem_cons_zero, Act.put, List.setIfInBounds_toArray, List.set_cons_zero, List.set_cons_succ]
          refine wpAnyH_take (i := 5) (v := ?_) rfl (by kernel_rfl) (by kernel_rfl) (by kernel_rfl) (fun _ _ _ h => h) (Or.inl ⟨by rfl, ?_⟩) (by assumption) ?_
          rotate_left
          · (intro w hSw; (try dsimp only at hSw); go_simp; try with_reducible rfl)
          try simp only [List.getElem_toArray, List.getElem_cons_succ, List.getElem_cons_zero, Act.put, List.setIfInBounds_toArray, List.set_cons_zero, List.set_cons_succ]
          have HM8 := Lib.hid (HM7.out.below HG0.out)
          have HKG8 := Lib.hid (HKG7.out.same (same_below HG0.out) hgb7)
          have HKX8 := Lib.hid (HKX7.out.same (same_below HG0.out) HKX7.out.lt)
          have HB8 := Lib.hid (HB7.out.trans (HG0.out.mono (Nat.le_trans HBS.out HB7.out.size)))
          have hBd : B ≤ wd.heap.size := Nat.le_trans HBS.out HB8.out.size
          have hglc : gs.length ≤ 1000 := by have := HGL.out; omega
          have hgd : gb < wd.heap.size := HKG8.out.lt
          have HKXA := Lib.hid (HKX8.out.same (same_below ((Below.refl wd.heap.size wd).alloc (Nat.le_refl _) (.cells #[.pointer (some ⟨gb, 0, none⟩)] 46))) HKX8.out.lt)
          refine wpAnyH_ready (rs := [6]) (by kernel_rfl) (by simp) ?_
          refine AllReadyH.cons rfl (fun K hK => ?_) AllReadyH.nil
          rw [if_pos (by rfl)]
          simp only [List.getElem_toArray, List.getElem_cons_succ, List.getElem_cons_zero]
          go_simp
          refine hK.out _ _ (HKXA.out.cell 0) (fun hHeld => ?_)
          clear hK K
          try simp only [List.getElem_toArray, List.getElem_cons_succ, List.getElem_cons_zero, Act.put, List.setIfInBounds_toArray, List.set_cons_zero, List.set_cons_succ]
          refine wpAnyH_ready (rs := [7]) (by kernel_rfl) (by simp) ?_
          refine AllReadyH.cons rfl (fun K hK => ?_) AllReadyH.nil
          refine step_app_new (w := wd) (by rfl) (.tmp 78) (.tmp 80) 36 (by rfl) 46 (.pointer none) 1 8 Tryd.underlying36 ptr_info rfl (by decide) (m := 1) [.pointer (some ⟨gb, 0, none⟩)] 0 rfl HM8.out.o.row hBd rfl rfl rfl (by decide) (by simp [Value.oneCell']) (by unfold maxLen; omega) (by omega) ?_
          intro g9 c9 w9 HO9 HG9 HE9 HL9
          have HO' := Lib.hid (HM8.out.o.push HG9.out HO9.out HKG8.out hBg)
          have HN' : Hid (RowR B (nowAt l at_ k) hs u8 w9) := Lib.hid (HM8.out.nw.kept HG9.out HM8.out.sep (fun q hq => HM8.out.nw.notRow hq HM8.out.o.row))
          have HV9 := Lib.hid (HM8.out.map.grown HG9.out (HM8.out.map.notRow HM8.out.o.row))
          have HKX9 := Lib.hid (HKX8.out.same (grown_same HG9.out) ⟨HKX8.out.lt, blk_not_row HKX8.out HM8.out.o.row (by decide)⟩)
          have HB9 := Lib.hid (HB8.out.grown HG9.out hBd (fun j hj => (HM8.out.o.row.lt j hj).1))
          have HSP : Hid (u8.ownBlock = none ∨ u8.ownBlock ≠ (Value.slice (some ⟨g9, 0, none⟩) (gs.length + 1) c9).ownBlock) := Lib.hid (by
            rcases HL9.out with h | h
            · rw [show (Value.slice (some ⟨g9, 0, none⟩) (gs.length + 1) c9).ownBlock = some g9 from rfl, ← h]; exact HM8.out.sep
            · right
              intro e
              have e2 : u8.ownBlock = some g9 := e
              have := HNB.out g9 e2
              omega)
          refine hK.out _ _ (HKX9.out.cell 0) (fun hHeld => ?_)
          clear hK K
          try simp only [List.getElem_toArray, List.getElem_cons_succ, List.getElem_cons_zero, Act.put, List.setIfInBounds_toArray, List.set_cons_zero, List.set_cons_succ]
          refine wpAnyH_ready (rs := [8]) (by kernel_rfl) (by simp) ?_
          refine AllReadyH.cons rfl (fun K hK => ?_) AllReadyH.nil
          refine step_vmap_upd (by rfl) _ _ _ 64 rfl HV9.out (Maps.string_keyed Tryd.underlying9) Tryd.underlying64 (by unfold maxLen; omega) (.string x.id) (.pointer (some ⟨gb, 0, none⟩)) rfl rfl rfl (keyT x.id HXI.out) (by trivial) ?_
          intro w10 HV10 HG10
          have HKX10 := Lib.hid (HKX9.out.same (grown_same HG10.out) ⟨HKX9.out.lt, fun e => blk_not_map HV9.out HKX9.out (Option.some.inj e)⟩)
          have HFN0 := Lib.hid (HM8.out.more HIX.out (HO'.out.kept HG10.out (.inr (HV9.out.notRow HO'.out.row).symm) (fun q hq e => by
            obtain ⟨i, hi, rfl⟩ := List.mem_iff_getElem.1 hq
            exact blk_not_map HV9.out (HO'.out.blk i hi (by rw [← HO'.out.len]; exact hi)) (Option.some.inj e)))
            (HN'.out.kept HG10.out (.inr (HV9.out.notRow HN'.out.row).symm) (fun q hq e => by
            obtain ⟨i, hi, rfl⟩ := List.mem_iff_getElem.1 hq
            exact blk_not_map HV9.out (HN'.out.blk i hi (by rw [← HN'.out.len]; exact hi)) (Option.some.inj e))) HV10.out HNG.out.1 HNG.out.2 HSP.out)
          have HBN := Lib.hid (HB9.out.grown HG10.out (Nat.le_trans HBS.out HB9.out.size) (fun j hj => by have := Option.some.inj hj; omega))
          refine hK.out _ _ (HKX10.out.cell 0) (fun hHeld => ?_)
          clear hK K
          try simp only [List.getElem_toArray, List.getElem_cons_succ, List.getElem_cons_zero, Act.put, List.setIfInBounds_toArray, List.set_cons_zero, List.set_cons_succ]
          refine wpAnyH_take (i := 9) (v := ?_) rfl (by kernel_rfl) (by kernel_rfl) (by kernel_rfl) (fun _ _ _ h => h) (Or.inl ⟨by rfl, ?_⟩) (by assumption) ?_
          rotate_left
          · (intro w hSw; (try dsimp only at hSw); go_simp; try with_reducible rfl)
          try simp only [List.getElem_toArray, List.getElem_cons_succ, List.getElem_cons_zero, Act.put, List.setIfInBounds_toArray, List.set_cons_zero, List.set_cons_succ]
          refine wpAnyH_done (by kernel_rfl) ?_ _
          clear hHeld KEEP HO' HN' HV9 HKX9 HB9 HSP HV10 HG10 HM8 HKG8 HKX8 HB8 HO9 HG9 HE9 HL9 HKXA HM7 HB7 HKX7 HKG7
          have HKXN := HKX10
          obtain ⟨rs2, hrs2⟩ : ∃ rs2, rs2 = rs ++ [newR x] := ⟨_, rfl⟩
          obtain ⟨gs2, hgs2⟩ : ∃ gs2, gs2 = gs ++ [gb] := ⟨_, rfl⟩
          obtain ⟨f2, hf2⟩ : ∃ f2, f2 = (fun y : Lit => if y.sameKey (.string x.id) then some (Value.pointer (some ⟨gb, 0, none⟩)) else f y) := ⟨_, rfl⟩
          obtain ⟨L, hL⟩ : ∃ L, L = gs.length + 1 := ⟨_, rfl⟩
          have HLE : Hid (L = gs2.length ∧ gs2.length = rs2.length ∧ rs2.length ≤ k + 1) := Lib.hid ⟨by rw [hgs2, hL]; simp, by rw [hgs2, hrs2]; simp [HGL.out], by rw [hrs2]; simp; omega⟩
          have HFN : Hid (FSt B rs2 (nowAt l at_ k) gs2 hs (.slice (some ⟨g9, 0, none⟩) L c9) u8 B (n + 1) f2 w10) := Lib.hid (by rw [hrs2, hgs2, hf2, hL]; exact HFN0.out)
          rw [← hrs2] at HRS2
          rw [← hL]
          obtain ⟨n2, hn2⟩ : ∃ n2, n2 = n + 1 := ⟨_, rfl⟩
          rw [← hn2] at HFN
          have hn2k : n2 ≤ k + 1 := by omega
          have hLb : L ≤ k + 1 := by have := HLE.out; omega
          clear hrs2 hgs2 hf2 hL HFN0 hn2
          have x2 : w10.cell? ⟨xb, 2, none⟩ = some (.int .i64 x.at_) := HKXN.out.cell 2
          by_cases hat : x.at_ ≤ at_
          case neg =>
            have HNE := Lib.hid (HNW.out.trans (if_neg hat))
            clear HNW
            go_wp2_with fail
            go_roundw
            case rel => first | exact ⟨k + 1, n2, f2, gs2, hs, _, _, rfl, rfl, by omega, by go_num, by omega, HSN, by rw [HRS2.out, HNE.out]; exact HFN, HBN⟩ | (repeat (apply Exists.intro); (refine And.intro ?_ ?_; rotate_left; (repeat' (first | exact rfl | apply And.intro)); exact ⟨k + 1, n2, f2, gs2, hs, _, _, rfl, rfl, by omega, by go_num, by omega, HSN, by rw [HRS2.out, HNE.out]; exact HFN, HBN⟩))
            case measure => simp [intOf]; omega
          have HNE := Lib.hid (HNW.out.trans (if_pos hat))
          clear HNW
          have HFR := Lib.hid HFN.out.reset
          clear HFN
          have hLx : L ≤ 100000 := by omega
          go_wp2_with fail
          clear x2
          go_loopw [8, 91] (fun vn vi wz => ∃ (m : Nat) (hs : List Nat), m ≤ L ∧ vi = .int .i64 m ∧ Hid (FSt B rs2 (rs2.take m) gs2 hs (.slice (some ⟨g9, 0, none⟩) L c9) vn B n2 f2 wz) ∧ Hid (Below B w wz)) (fun _ vi _ => L - (intOf vi).toNat)
          case atStart => exact ⟨0, [], by omega, rfl, by rw [List.take_zero]; exact HFR, HBN⟩
          case round =>
            clear HFR HBN
            obtain ⟨m, hs, hm, rfl, HF, HBZ⟩ := hrel
            obtain ⟨Av, cv, hvv, hcv1, hcv2, _⟩ := own_form HF.out.nw.row
            subst hvv
            have hhl := HF.out.nw.len
            rw [List.length_take] at hhl
            by_cases hml : m < L
            · have hmg : m < gs2.length := by have := HLE.out; omega
              have hmr : m < rs2.length := by have := HLE.out; omega
              obtain ⟨g, c, e1, e0⟩ := HF.out.o.cell hmg
              injection e1 with e1 q2 q3
              injection e1 with e1
              injection e1 with e1 q4
              subst e1
              clear q2 q3
              have hblk := HF.out.o.blk m hmg hmr
              have hlow := HF.out.o.low _ (List.getElem_mem hmg)
              have HTK : Hid (rs2.take (m + 1) = rs2.take m ++ [rs2[m]]) := Lib.hid (List.take_succ_eq_append_getElem hmr)
              generalize gs2[m] = gm at *
              generalize rs2[m] = r at *
              have HBR := Lib.hid hblk
              have r0 : wr.cell? ⟨gm, 0, none⟩ = some (.string (bstr r.ask.id)) := hblk.cell 0
              have r1 : wr.cell? ⟨gm, 1, none⟩ = some (.int .i64 r.ask.kind) := hblk.cell 1
              have r2 : wr.cell? ⟨gm, 2, none⟩ = some (.int .i64 r.ask.at_) := hblk.cell 2
              have r3 : wr.cell? ⟨gm, 3, none⟩ = some (.string (bstr r.ask.pre)) := hblk.cell 3
              have r4 : wr.cell? ⟨gm, 4, none⟩ = some (.int .i64 r.state) := hblk.cell 4
              have r5 : wr.cell? ⟨gm, 5, none⟩ = some (.bool r.grant) := hblk.cell 5
              have r6 : wr.cell? ⟨gm, 6, none⟩ = some (.int .i64 r.end_) := hblk.cell 6
              have HAL := Lib.hid ((Below.refl wr.heap.size wr).alloc (Nat.le_refl _) (.cells #[.string (bstr r.ask.id), .int .i64 r.ask.kind, .int .i64 r.ask.at_, .string (bstr r.ask.pre), .int .i64 r.state, .bool r.grant, .int .i64 r.end_] 48))
              have HF2 := Lib.hid (HF.out.below HAL.out)
              have HKN := Lib.hid (Blk.new wr 48 [.string (bstr r.ask.id), .int .i64 r.ask.kind, .int .i64 r.ask.at_, .string (bstr r.ask.pre), .int .i64 r.state, .bool r.grant, .int .i64 r.end_])
              have HBZ2 := Lib.hid (HBZ.out.trans (HAL.out.mono (Nat.le_trans HBS.out HBZ.out.size)))
              have HFRESH : Hid (wr.heap.size ∉ gs2) := Lib.hid (fun h => by have := HF.out.o.lt h; omega)
              have HOL : Hid (∀ p, (Value.slice (some ⟨g9, 0, none⟩) L c9).ownBlock = some p → p < wr.heap.size) := Lib.hid (fun p hp => (HF.out.o.row.lt p hp).2)
              have hBz : B ≤ wr.heap.size := Nat.le_trans HBS.out HBZ.out.size
              have hhm : hs.length ≤ 100000 := by omega
              clear hblk hhl
              go_wp2_with (at_builtin; go_must (refine app_new (w := wr.alloc (.cells #[.string (bstr r.ask.id), .int .i64 r.ask.kind, .int .i64 r.ask.at_, .string (bstr r.ask.pre), .int .i64 r.state, .bool r.grant, .int .i64 r.end_] 48)) rfl (.tmp 98) (.tmp 99) 36 rfl 46 (.pointer none) 1 8 Tryd.underlying36 ptr_info rfl (by decide) (m := 1) [.pointer (some ⟨wr.heap.size, 0, none⟩)] HF2.out.nw.row (Nat.le_trans HBS.out HBZ2.out.size) rfl (by rw [World.size_alloc]; rfl) rfl (by decide) (by simp [Value.oneCell']) (by unfold maxLen; omega) (by omega) ?_); intro g8 c8 w8 HO8 HG8 HE8 HL8)
              have HFC := Lib.hid (HF2.out.copy HG8.out HO8.out HKN.out hBz HFRESH.out (by
                rcases HL8.out with h | h
                · exact .inl h
                · exact .inr ⟨g8, rfl, fun p hp => by have := HOL.out p hp; simp only [World.size_alloc] at h; omega⟩))
              have HB8 := Lib.hid (HBZ2.out.grown HG8.out (Nat.le_trans HBS.out HBZ2.out.size) (fun j hj => (HF2.out.nw.row.lt j hj).1))
              go_roundw
              case rel => first | exact ⟨m + 1, hs ++ [wr.heap.size], by omega, by go_num, by rw [HTK.out]; exact HFC, HB8⟩ | (repeat (apply Exists.intro); (refine And.intro ?_ ?_; rotate_left; (repeat' (first | exact rfl | apply And.intro)); exact ⟨m + 1, hs ++ [wr.heap.size], by omega, by go_num, by rw [HTK.out]; exact HFC, HB8⟩))
              case measure => simp [intOf]; omega
            · obtain rfl : m = L := by omega
              have HTA : Hid (rs2.take m = rs2) := Lib.hid (List.take_of_length_le (by have := HLE.out; omega))
              go_wp2_with fail
              go_roundw
              case rel => first | exact ⟨k + 1, n2, f2, gs2, hs, _, _, rfl, rfl, by omega, by go_num, by omega, HSN, by rw [HNE.out, HRS2.out]; have h := HF.out; rw [HTA.out] at h; exact h, HBZ⟩ | (repeat (apply Exists.intro); (refine And.intro ?_ ?_; rotate_left; (repeat' (first | exact rfl | apply And.intro)); exact ⟨k + 1, n2, f2, gs2, hs, _, _, rfl, rfl, by omega, by go_num, by omega, HSN, by rw [HNE.out, HRS2.out]; have h := HF.out; rw [HTA.out] at h; exact h, HBZ⟩))
              case measure => simp [intOf]; omega
        | some i =>
          rw [hix] at hlk
          simp only [Option.map_some, Option.getD_some, Option.isSome_some] at hlk
          obtain ⟨hi, hid⟩ := reqIx_some hix
          have hgl := HM6.out.o.len
          have hig : i < gs.length := by omega
          have HGL := Lib.hid hgl
          clear hgl
          rw [show gs.getD i 0 = gs[i] by rw [List.getD_eq_getElem?_getD, List.getElem?_eq_getElem hig]; rfl] at hlk
          by_cases hk1 : x.kind = 1
          · have HF : Hid (appsFault l = 7) := Lib.hid (F1.out _ (HFO2.out.trans (by unfold stepR; rw [hix]; simp [hk1])) (by decide))
            have hkb : (x.kind == (1 : Int)) = true := by simpa using hk1
            generalize x.kind = xk at *
            go_wp2_with fail
            go_ret2
            exact fol_bad HF.out (by decide) (by rw [← HBE.out]; exact HB6.out)
          have hkr := appF_kind HQ1.out
          have HST : Hid (stepR rs x = match takeR rs[i] x with | none => (11, rs) | some r => (0, rs.set i r)) := Lib.hid (by unfold stepR; rw [hix]; simp only [if_neg hk1]; rw [getD_at rs _ hi]; split <;> simp_all)
          have HTA := Lib.hid (take_any rs[i] x gs[i] wq (HM6.out.o.blk i hig hi) (by omega))
          have hkb : (x.kind == (1 : Int)) = false := by simpa using hk1
          clear hix hk1
          obtain ⟨go, co, hvo, _⟩ := HM6.out.o.cell hig
          subst hvo
          generalize hgi : gs[i] = gi at *
          have HGI := Lib.hid hgi
          clear hgi
          go_wp2_with fail
          refine HTA.out.mono ?_
          rintro e w8 ⟨ff, r', rfl, hg, hk', hft⟩
          have HG8 := Lib.hid hg
          have HKR := Lib.hid hk'
          clear hg hk' x0 x1 x2 x3 hlk
          have hgiB : B ≤ gi := by rw [← HGI.out]; exact HM6.out.o.low _ (List.getElem_mem hig)
          have HB8 := Lib.hid (HB6.out.grown HG8.out hBW6 (fun j e => by have := Option.some.inj e; omega))
          rcases hft with ⟨rfl, ht⟩ | ⟨rfl, ht, _⟩
          case inr =>
            have HF : Hid (appsFault l = 11) := Lib.hid (F1.out _ (HFO2.out.trans (by rw [HST.out, ht])) (by decide))
            go_wp2_with fail
            go_ret2
            exact fol_bad HF.out (by decide) (by rw [← HBE.out]; exact HB8.out)
          have HST2 : Hid (stepR rs x = (0, rs.set i r')) := Lib.hid (by rw [HST.out, ht])
          have HSN : Hid (∀ j, j < k + 1 → folF l j = 0) := Lib.hid (G5.out (HFO2.out.trans (by rw [HST2.out])))
          have HRS3 : Hid (rsAt l (k + 1) = rs.set i r') := Lib.hid (HRS.out.trans (by rw [HST2.out]))
          have HFN0 : Hid (FSt B (rs.set i r') (nowAt l at_ k) gs hs (.slice (some ⟨go, 0, none⟩) gs.length co) u8 B n f w8) := Lib.hid (HM6.out.take hig hi (by rw [HGI.out]; exact HG8.out) (by rw [HGI.out]; exact HKR.out) (takeR_ask ht))
          have hxg : xb ≠ gi := by
            have h1 := HM6.out.o.blk i hig hi
            rw [HGI.out] at h1
            exact HKX6.out.ne h1 (by decide)
          have HKXN := Lib.hid (HKX6.out.same (grown_same HG8.out) ⟨HKX6.out.lt, fun e => hxg (Option.some.inj e)⟩)
          have HBN := HB8
          clear ht HST HST2 HTA HFO2 F1 G5 HRS HKR HG8 HM6 HB6 HKX6 HB8 hxg
          obtain ⟨rs2, hrs2⟩ : ∃ rs2, rs2 = rs.set i r' := ⟨_, rfl⟩
          obtain ⟨L, hL⟩ : ∃ L, L = gs.length := ⟨_, rfl⟩
          have HLE : Hid (L = gs.length ∧ gs.length = rs2.length ∧ rs2.length ≤ k + 1) := Lib.hid ⟨hL, by rw [hrs2]; simp [HGL.out], by rw [hrs2]; simp; omega⟩
          have HFN : Hid (FSt B rs2 (nowAt l at_ k) gs hs (.slice (some ⟨go, 0, none⟩) L co) u8 B n f w8) := Lib.hid (by rw [hrs2, hL]; exact HFN0.out)
          have HRS2 : Hid (rsAt l (k + 1) = rs2) := Lib.hid (by rw [hrs2]; exact HRS3.out)
          rw [← hL]
          have hLb : L ≤ k + 1 := by have := HLE.out; omega
          clear hrs2 hL HFN0 HRS3
          have x2 : w8.cell? ⟨xb, 2, none⟩ = some (.int .i64 x.at_) := HKXN.out.cell 2
          by_cases hat : x.at_ ≤ at_
          case neg =>
            have HNE := Lib.hid (HNW.out.trans (if_neg hat))
            clear HNW
            go_wp2_with fail
            go_roundw
            case rel => first | exact ⟨k + 1, n, f, gs, hs, _, _, rfl, rfl, by omega, by go_num, by omega, HSN, by rw [HRS2.out, HNE.out]; exact HFN, HBN⟩ | (repeat (apply Exists.intro); (refine And.intro ?_ ?_; rotate_left; (repeat' (first | exact rfl | apply And.intro)); exact ⟨k + 1, n, f, gs, hs, _, _, rfl, rfl, by omega, by go_num, by omega, HSN, by rw [HRS2.out, HNE.out]; exact HFN, HBN⟩))
            case measure => simp [intOf]; omega
          have HNE := Lib.hid (HNW.out.trans (if_pos hat))
          clear HNW
          have HFR := Lib.hid HFN.out.reset
          clear HFN
          have hLx : L ≤ 100000 := by omega
          go_wp2_with fail
          clear x2
          go_loopw [8, 91] (fun vn vi wz => ∃ (m : Nat) (hs : List Nat), m ≤ L ∧ vi = .int .i64 m ∧ Hid (FSt B rs2 (rs2.take m) gs hs (.slice (some ⟨go, 0, none⟩) L co) vn B n f wz) ∧ Hid (Below B w wz)) (fun _ vi _ => L - (intOf vi).toNat)
          case atStart => exact ⟨0, [], by omega, rfl, by rw [List.take_zero]; exact HFR, HBN⟩
          case round =>
            clear HFR HBN
            obtain ⟨m, hs, hm, rfl, HF, HBZ⟩ := hrel
            obtain ⟨Av, cv, hvv, hcv1, hcv2, _⟩ := own_form HF.out.nw.row
            subst hvv
            have hhl := HF.out.nw.len
            rw [List.length_take] at hhl
            by_cases hml : m < L
            · have hmg : m < gs.length := by have := HLE.out; omega
              have hmr : m < rs2.length := by have := HLE.out; omega
              obtain ⟨g, c, e1, e0⟩ := HF.out.o.cell hmg
              injection e1 with e1 q2 q3
              injection e1 with e1
              injection e1 with e1 q4
              subst e1
              clear q2 q3
              have hblk := HF.out.o.blk m hmg hmr
              have hlow := HF.out.o.low _ (List.getElem_mem hmg)
              have HTK : Hid (rs2.take (m + 1) = rs2.take m ++ [rs2[m]]) := Lib.hid (List.take_succ_eq_append_getElem hmr)
              generalize gs[m] = gm at *
              generalize rs2[m] = r at *
              have HBR := Lib.hid hblk
              have r0 : wr.cell? ⟨gm, 0, none⟩ = some (.string (bstr r.ask.id)) := hblk.cell 0
              have r1 : wr.cell? ⟨gm, 1, none⟩ = some (.int .i64 r.ask.kind) := hblk.cell 1
              have r2 : wr.cell? ⟨gm, 2, none⟩ = some (.int .i64 r.ask.at_) := hblk.cell 2
              have r3 : wr.cell? ⟨gm, 3, none⟩ = some (.string (bstr r.ask.pre)) := hblk.cell 3
              have r4 : wr.cell? ⟨gm, 4, none⟩ = some (.int .i64 r.state) := hblk.cell 4
              have r5 : wr.cell? ⟨gm, 5, none⟩ = some (.bool r.grant) := hblk.cell 5
              have r6 : wr.cell? ⟨gm, 6, none⟩ = some (.int .i64 r.end_) := hblk.cell 6
              have HAL := Lib.hid ((Below.refl wr.heap.size wr).alloc (Nat.le_refl _) (.cells #[.string (bstr r.ask.id), .int .i64 r.ask.kind, .int .i64 r.ask.at_, .string (bstr r.ask.pre), .int .i64 r.state, .bool r.grant, .int .i64 r.end_] 48))
              have HF2 := Lib.hid (HF.out.below HAL.out)
              have HKN := Lib.hid (Blk.new wr 48 [.string (bstr r.ask.id), .int .i64 r.ask.kind, .int .i64 r.ask.at_, .string (bstr r.ask.pre), .int .i64 r.state, .bool r.grant, .int .i64 r.end_])
              have HBZ2 := Lib.hid (HBZ.out.trans (HAL.out.mono (Nat.le_trans HBS.out HBZ.out.size)))
              have HFRESH : Hid (wr.heap.size ∉ gs) := Lib.hid (fun h => by have := HF.out.o.lt h; omega)
              have HOL : Hid (∀ p, (Value.slice (some ⟨go, 0, none⟩) L co).ownBlock = some p → p < wr.heap.size) := Lib.hid (fun p hp => (HF.out.o.row.lt p hp).2)
              have hBz : B ≤ wr.heap.size := Nat.le_trans HBS.out HBZ.out.size
              have hhm : hs.length ≤ 100000 := by omega
              clear hblk hhl
              go_wp2_with (at_builtin; go_must (refine app_new (w := wr.alloc (.cells #[.string (bstr r.ask.id), .int .i64 r.ask.kind, .int .i64 r.ask.at_, .string (bstr r.ask.pre), .int .i64 r.state, .bool r.grant, .int .i64 r.end_] 48)) rfl (.tmp 98) (.tmp 99) 36 rfl 46 (.pointer none) 1 8 Tryd.underlying36 ptr_info rfl (by decide) (m := 1) [.pointer (some ⟨wr.heap.size, 0, none⟩)] HF2.out.nw.row (Nat.le_trans HBS.out HBZ2.out.size) rfl (by rw [World.size_alloc]; rfl) rfl (by decide) (by simp [Value.oneCell']) (by unfold maxLen; omega) (by omega) ?_); intro g8 c8 w8 HO8 HG8 HE8 HL8)
              have HFC := Lib.hid (HF2.out.copy HG8.out HO8.out HKN.out hBz HFRESH.out (by
                rcases HL8.out with h | h
                · exact .inl h
                · exact .inr ⟨g8, rfl, fun p hp => by have := HOL.out p hp; simp only [World.size_alloc] at h; omega⟩))
              have HB8 := Lib.hid (HBZ2.out.grown HG8.out (Nat.le_trans HBS.out HBZ2.out.size) (fun j hj => (HF2.out.nw.row.lt j hj).1))
              go_roundw
              case rel => first | exact ⟨m + 1, hs ++ [wr.heap.size], by omega, by go_num, by rw [HTK.out]; exact HFC, HB8⟩ | (repeat (apply Exists.intro); (refine And.intro ?_ ?_; rotate_left; (repeat' (first | exact rfl | apply And.intro)); exact ⟨m + 1, hs ++ [wr.heap.size], by omega, by go_num, by rw [HTK.out]; exact HFC, HB8⟩))
              case measure => simp [intOf]; omega
            · obtain rfl : m = L := by omega
              have HTA : Hid (rs2.take m = rs2) := Lib.hid (List.take_of_length_le (by have := HLE.out; omega))
              go_wp2_with fail
              go_roundw
              case rel => first | exact ⟨k + 1, n, f, gs, hs, _, _, rfl, rfl, by omega, by go_num, by omega, HSN, by rw [HNE.out, HRS2.out]; have h := HF.out; rw [HTA.out] at h; exact h, HBZ⟩ | (repeat (apply Exists.intro); (refine And.intro ?_ ?_; rotate_left; (repeat' (first | exact rfl | apply And.intro)); exact ⟨k + 1, n, f, gs, hs, _, _, rfl, rfl, by omega, by go_num, by omega, HSN, by rw [HNE.out, HRS2.out]; have h := HF.out; rw [HTA.out] at h; exact h, HBZ⟩))
              case measure => simp [intOf]; omega
      have hkp : 0 < k := by omega
      obtain ⟨hpv, hpb⟩ := HPV.out hkp
      have HPB : Hid ((ad.add ((k - 1) * 4)).block < B) := Lib.hid (by rw [add_block, HBE.out]; exact hpb)
      have HPV2 := Lib.hid hpv
      have KEEP : Hid (∀ w', Below wr5.heap.size wr5 w' → (w'.cell? ⟨xb, 2, none⟩ = some (.int .i64 x.at_) ∧ w'.cell? ⟨(ad.add ((k - 1) * 4)).block, (ad.add ((k - 1) * 4)).off + 2, none⟩ = some (.int .i64 py))) := Lib.hid (fun w' hg => ⟨(HKX5.out.same (same_below hg) HKX5.out.lt).cell 2, ((HB5.out.trans (hg.mono hBW5)).cell (p := ⟨(ad.add ((k - 1) * 4)).block, (ad.add ((k - 1) * 4)).off + 2, none⟩) HPB.out).trans HPV2.out⟩)
      clear hpv hpb HPV
      have z1 : IntKind.i64.wrap ((k : Int) - 1) = (k : Int) - 1 := by rw [IntKind.wrap_i64]; omega
      have z2 : ((k : Int) - 1).toNat = k - 1 := by omega
      have z3 : (0 : Int) ≤ (k : Int) - 1 := by omega
      have z4 : (k : Int) - 1 < (l.length : Int) := by omega
      have z5 : (1 : Int) ≤ (k : Int) := by omega
      have z6 : (0 : Int) < (k : Int) := by omega
      have z6b : decide ((0 : Int) < (k : Int)) = true := decide_eq_true z6
      by_cases hod : x.at_ < py
      · have HF : Hid (appsFault l = 8) := Lib.hid (F1.out _ (by have hh : headF l k = 8 := HHD2.out.trans (if_pos ⟨hkp, hod⟩); rw [HFO.out, hh]; rfl) (by decide))
        have z7 : decide (x.at_ < py) = true := decide_eq_true hod
        go_wp2_with fail
        refine wp_region_held_drew (S := fun w' => w'.cell? ⟨xb, 2, none⟩ = some (.int .i64 x.at_) ∧ w'.cell? ⟨(ad.add ((k - 1) * 4)).block, (ad.add ((k - 1) * 4)).off + 2, none⟩ = some (.int .i64 py)) (by kernel_rfl) (KEEP.out _ (Below.drew (Below.refl _ _))) (fun hHeld => ?_)
        obtain ⟨wq, hwq⟩ : ∃ wq, wq = World.drew wr5 := ⟨_, rfl⟩
        have HG0 : Hid (Below wr5.heap.size wr5 wq) := Lib.hid (by rw [hwq]; exact Below.drew (Below.refl _ _))
        rw [← hwq] at hHeld ⊢
        clear hwq
        refine wpAnyH_take (i := 0) (v := ?_) rfl (by kernel_rfl) (by kernel_rfl) (by kernel_rfl) (fun _ _ _ h => h) (Or.inl ⟨by rfl, ?_⟩) (by assumption) ?_
        rotate_left
        · (intro w hSw; (try dsimp only at hSw); go_simp; try with_reducible rfl)
        try simp only [List.getElem_toArray, List.getElem_cons_succ, List.getElem_cons_zero, Act.put, List.setIfInBounds_toArray, List.set_cons_zero, List.set_cons_succ]
        refine wpAnyH_take (i := 1) (v := ?_) rfl (by kernel_rfl) (by kernel_rfl) (by kernel_rfl) (fun _ _ _ h => h) (Or.inl ⟨by rfl, ?_⟩) (by assumption) ?_
        rotate_left
        · (intro w hSw; (try dsimp only at hSw); go_simp; try with_reducible rfl)
        try simp only [List.getElem_toArray, List.getElem_cons_succ, List.getElem_cons_zero, Act.put, List.setIfInBounds_toArray, List.set_cons_zero, List.set_cons_succ]
        refine wpAnyH_take (i := 2) (v := ?_) rfl (by kernel_rfl) (by kernel_rfl) (by kernel_rfl) (fun _ _ _ h => h) (Or.inl ⟨by rfl, ?_⟩) (by assumption) ?_
        rotate_left
        · (intro w hSw; (try dsimp only at hSw); go_simp; try with_reducible rfl)
        try simp only [List.getElem_toArray, List.getElem_cons_succ, List.getElem_cons_zero, Act.put, List.setIfInBounds_toArray, List.set_cons_zero, List.set_cons_succ]
        refine wpAnyH_take (i := 3) (v := ?_) rfl (by kernel_rfl) (by kernel_rfl) (by kernel_rfl) (fun _ _ _ h => h) (Or.inl ⟨by rfl, ?_⟩) (by assumption) ?_
        rotate_left
        · (intro w hSw; (try dsimp only at hSw); go_simp; try with_reducible rfl)
        try simp only [List.getElem_toArray, List.getElem_cons_succ, List.getElem_cons_zero, Act.put, List.setIfInBounds_toArray, List.set_cons_zero, List.set_cons_succ]
        refine wpAnyH_take (i := 4) (v := ?_) rfl (by kernel_rfl) (by kernel_rfl) (by kernel_rfl) (fun _ _ _ h => h) (Or.inl ⟨by rfl, ?_⟩) (by assumption) ?_
        rotate_left
        · (intro w hSw; (try dsimp only at hSw); go_simp; try with_reducible rfl)
        try simp only [List.getElem_toArray, List.getElem_cons_succ, List.getElem_cons_zero, Act.put, List.setIfInBounds_toArray, List.set_cons_zero, List.set_cons_succ]
        refine wpAnyH_take (i := 5) (v := ?_) rfl (by kernel_rfl) (by kernel_rfl) (by kernel_rfl) (fun _ _ _ h => h) (Or.inl ⟨by rfl, ?_⟩) (by assumption) ?_
        rotate_left
        · (intro w hSw; (try dsimp only at hSw); go_simp; try with_reducible rfl)
        try simp only [List.getElem_toArray, List.getElem_cons_succ, List.getElem_cons_zero, Act.put, List.setIfInBounds_toArray, List.set_cons_zero, List.set_cons_succ]
        refine wpAnyH_take (i := 6) (v := ?_) rfl (by kernel_rfl) (by kernel_rfl) (by kernel_rfl) (fun _ _ _ h => h) (Or.inl ⟨by rfl, ?_⟩) (by assumption) ?_
        rotate_left
        · (intro w hSw; (try dsimp only at hSw); go_simp; try with_reducible rfl)
        try simp only [List.getElem_toArray, List.getElem_cons_succ, List.getElem_cons_zero, Act.put, List.setIfInBounds_toArray, List.set_cons_zero, List.set_cons_succ]
        refine wpAnyH_take (i := 7) (v := ?_) rfl (by kernel_rfl) (by kernel_rfl) (by kernel_rfl) (fun _ _ _ h => h) (Or.inl ⟨by rfl, ?_⟩) (by assumption) ?_
        rotate_left
        · (intro w hSw; (try dsimp only at hSw); go_simp; try with_reducible rfl)
        try simp only [List.getElem_toArray, List.getElem_cons_succ, List.getElem_cons_zero, Act.put, List.setIfInBounds_toArray, List.set_cons_zero, List.set_cons_succ]
        refine wpAnyH_take (i := 8) (v := ?_) rfl (by kernel_rfl) (by kernel_rfl) (by kernel_rfl) (fun _ _ _ h => h) (Or.inl ⟨by rfl, ?_⟩) (by assumption) ?_
        rotate_left
        · (intro w hSw; (try dsimp only at hSw); go_simp; try with_reducible rfl)
        try simp only [List.getElem_toArray, List.getElem_cons_succ, List.getElem_cons_zero, Act.put, List.setIfInBounds_toArray, List.set_cons_zero, List.set_cons_succ]
        refine wpAnyH_take (i := 9) (v := ?_) rfl (by kernel_rfl) (by kernel_rfl) (by kernel_rfl) (fun _ _ _ h => h) (Or.inl ⟨by rfl, ?_⟩) (by assumption) ?_
        rotate_left
        · (intro w hSw; (try dsimp only at hSw); go_simp; try with_reducible rfl)
        try simp only [List.getElem_toArray, List.getElem_cons_succ, List.getElem_cons_zero, Act.put, List.setIfInBounds_toArray, List.set_cons_zero, List.set_cons_succ]
        refine wpAnyH_take (i := 10) (v := ?_) rfl (by kernel_rfl) (by kernel_rfl) (by kernel_rfl) (fun _ _ _ h => h) (Or.inl ⟨by rfl, ?_⟩) (by assumption) ?_
        rotate_left
        · (intro w hSw; (try dsimp only at hSw); go_simp; try with_reducible rfl)
        try simp only [List.getElem_toArray, List.getElem_cons_succ, List.getElem_cons_zero, Act.put, List.setIfInBounds_toArray, List.set_cons_zero, List.set_cons_succ]
        refine wpAnyH_take (i := 11) (v := ?_) rfl (by kernel_rfl) (by kernel_rfl) (by kernel_rfl) (fun _ _ _ h => h) (Or.inl ⟨by rfl, ?_⟩) (by assumption) ?_
        rotate_left
        · (intro w hSw; (try dsimp only at hSw); go_simp; try with_reducible rfl)
        try simp only [List.getElem_toArray, List.getElem_cons_succ, List.getElem_cons_zero, Act.put, List.setIfInBounds_toArray, List.set_cons_zero, List.set_cons_succ]
        refine wpAnyH_take (i := 12) (v := ?_) rfl (by kernel_rfl) (by kernel_rfl) (by kernel_rfl) (fun _ _ _ h => h) (Or.inl ⟨by rfl, ?_⟩) (by assumption) ?_
        rotate_left
        · (intro w hSw; (try dsimp only at hSw); go_simp; try with_reducible rfl)
        try simp only [List.getElem_toArray, List.getElem_cons_succ, List.getElem_cons_zero, Act.put, List.setIfInBounds_toArray, List.set_cons_zero, List.set_cons_succ]
        refine wpAnyH_done (by kernel_rfl) ?_ _
        clear hHeld KEEP
        go_wp2_with fail
        go_ret2
        exact fol_bad HF.out (by decide) (by rw [← HBE.out]; exact HB5.out.trans (HG0.out.mono hBW5))
      have HOR : Hid ((if 0 < k ∧ x.at_ < py then (8 : Int) else 0) = 0) := Lib.hid (if_neg (fun e => hod e.2))
      have z7 : decide (x.at_ < py) = false := decide_eq_false hod
      go_wp2_with fail
      refine wp_region_held_drew (S := fun w' => w'.cell? ⟨xb, 2, none⟩ = some (.int .i64 x.at_) ∧ w'.cell? ⟨(ad.add ((k - 1) * 4)).block, (ad.add ((k - 1) * 4)).off + 2, none⟩ = some (.int .i64 py)) (by kernel_rfl) (KEEP.out _ (Below.drew (Below.refl _ _))) (fun hHeld => ?_)
      obtain ⟨wq, hwq⟩ : ∃ wq, wq = World.drew wr5 := ⟨_, rfl⟩
      have HG0 : Hid (Below wr5.heap.size wr5 wq) := Lib.hid (by rw [hwq]; exact Below.drew (Below.refl _ _))
      rw [← hwq] at hHeld ⊢
      clear hwq
      refine wpAnyH_take (i := 0) (v := ?_) rfl (by kernel_rfl) (by kernel_rfl) (by kernel_rfl) (fun _ _ _ h => h) (Or.inl ⟨by rfl, ?_⟩) (by assumption) ?_
      rotate_left
      · (intro w hSw; (try dsimp only at hSw); go_simp; try with_reducible rfl)
      try simp only [List.getElem_toArray, List.getElem_cons_succ, List.getElem_cons_zero, Act.put, List.setIfInBounds_toArray, List.set_cons_zero, List.set_cons_succ]
      refine wpAnyH_take (i := 1) (v := ?_) rfl (by kernel_rfl) (by kernel_rfl) (by kernel_rfl) (fun _ _ _ h => h) (Or.inl ⟨by rfl, ?_⟩) (by assumption) ?_
      rotate_left
      · (intro w hSw; (try dsimp only at hSw); go_simp; try with_reducible rfl)
      try simp only [List.getElem_toArray, List.getElem_cons_succ, List.getElem_cons_zero, Act.put, List.setIfInBounds_toArray, List.set_cons_zero, List.set_cons_succ]
      refine wpAnyH_take (i := 2) (v := ?_) rfl (by kernel_rfl) (by kernel_rfl) (by kernel_rfl) (fun _ _ _ h => h) (Or.inl ⟨by rfl, ?_⟩) (by assumption) ?_
      rotate_left
      · (intro w hSw; (try dsimp only at hSw); go_simp; try with_reducible rfl)
      try simp only [List.getElem_toArray, List.getElem_cons_succ, List.getElem_cons_zero, Act.put, List.setIfInBounds_toArray, List.set_cons_zero, List.set_cons_succ]
      refine wpAnyH_take (i := 3) (v := ?_) rfl (by kernel_rfl) (by kernel_rfl) (by kernel_rfl) (fun _ _ _ h => h) (Or.inl ⟨by rfl, ?_⟩) (by assumption) ?_
      rotate_left
      · (intro w hSw; (try dsimp only at hSw); go_simp; try with_reducible rfl)
      try simp only [List.getElem_toArray, List.getElem_cons_succ, List.getElem_cons_zero, Act.put, List.setIfInBounds_toArray, List.set_cons_zero, List.set_cons_succ]
      refine wpAnyH_take (i := 4) (v := ?_) rfl (by kernel_rfl) (by kernel_rfl) (by kernel_rfl) (fun _ _ _ h => h) (Or.inl ⟨by rfl, ?_⟩) (by assumption) ?_
      rotate_left
      · (intro w hSw; (try dsimp only at hSw); go_simp; try with_reducible rfl)
      try simp only [List.getElem_toArray, List.getElem_cons_succ, List.getElem_cons_zero, Act.put, List.setIfInBounds_toArray, List.set_cons_zero, List.set_cons_succ]
      refine wpAnyH_take (i := 5) (v := ?_) rfl (by kernel_rfl) (by kernel_rfl) (by kernel_rfl) (fun _ _ _ h => h) (Or.inl ⟨by rfl, ?_⟩) (by assumption) ?_
      rotate_left
      · (intro w hSw; (try dsimp only at hSw); go_simp; try with_reducible rfl)
      try simp only [List.getElem_toArray, List.getElem_cons_succ, List.getElem_cons_zero, Act.put, List.setIfInBounds_toArray, List.set_cons_zero, List.set_cons_succ]
      refine wpAnyH_take (i := 6) (v := ?_) rfl (by kernel_rfl) (by kernel_rfl) (by kernel_rfl) (fun _ _ _ h => h) (Or.inl ⟨by rfl, ?_⟩) (by assumption) ?_
      rotate_left
      · (intro w hSw; (try dsimp only at hSw); go_simp; try with_reducible rfl)
      try simp only [List.getElem_toArray, List.getElem_cons_succ, List.getElem_cons_zero, Act.put, List.setIfInBounds_toArray, List.set_cons_zero, List.set_cons_succ]
      refine wpAnyH_take (i := 7) (v := ?_) rfl (by kernel_rfl) (by kernel_rfl) (by kernel_rfl) (fun _ _ _ h => h) (Or.inl ⟨by rfl, ?_⟩) (by assumption) ?_
      rotate_left
      · (intro w hSw; (try dsimp only at hSw); go_simp; try with_reducible rfl)
      try simp only [List.getElem_toArray, List.getElem_cons_succ, List.getElem_cons_zero, Act.put, List.setIfInBounds_toArray, List.set_cons_zero, List.set_cons_succ]
      refine wpAnyH_take (i := 8) (v := ?_) rfl (by kernel_rfl) (by kernel_rfl) (by kernel_rfl) (fun _ _ _ h => h) (Or.inl ⟨by rfl, ?_⟩) (by assumption) ?_
      rotate_left
      · (intro w hSw; (try dsimp only at hSw); go_simp; try with_reducible rfl)
      try simp only [List.getElem_toArray, List.getElem_cons_succ, List.getElem_cons_zero, Act.put, List.setIfInBounds_toArray, List.set_cons_zero, List.set_cons_succ]
      refine wpAnyH_take (i := 9) (v := ?_) rfl (by kernel_rfl) (by kernel_rfl) (by kernel_rfl) (fun _ _ _ h => h) (Or.inl ⟨by rfl, ?_⟩) (by assumption) ?_
      rotate_left
      · (intro w hSw; (try dsimp only at hSw); go_simp; try with_reducible rfl)
      try simp only [List.getElem_toArray, List.getElem_cons_succ, List.getElem_cons_zero, Act.put, List.setIfInBounds_toArray, List.set_cons_zero, List.set_cons_succ]
      refine wpAnyH_take (i := 10) (v := ?_) rfl (by kernel_rfl) (by kernel_rfl) (by kernel_rfl) (fun _ _ _ h => h) (Or.inl ⟨by rfl, ?_⟩) (by assumption) ?_
      rotate_left
      · (intro w hSw; (try dsimp only at hSw); go_simp; try with_reducible rfl)
      try simp only [List.getElem_toArray, List.getElem_cons_succ, List.getElem_cons_zero, Act.put, List.setIfInBounds_toArray, List.set_cons_zero, List.set_cons_succ]
      refine wpAnyH_take (i := 11) (v := ?_) rfl (by kernel_rfl) (by kernel_rfl) (by kernel_rfl) (fun _ _ _ h => h) (Or.inl ⟨by rfl, ?_⟩) (by assumption) ?_
      rotate_left
      · (intro w hSw; (try dsimp only at hSw); go_simp; try with_reducible rfl)
      try simp only [List.getElem_toArray, List.getElem_cons_succ, List.getElem_cons_zero, Act.put, List.setIfInBounds_toArray, List.set_cons_zero, List.set_cons_succ]
      refine wpAnyH_take (i := 12) (v := ?_) rfl (by kernel_rfl) (by kernel_rfl) (by kernel_rfl) (fun _ _ _ h => h) (Or.inl ⟨by rfl, ?_⟩) (by assumption) ?_
      rotate_left
      · (intro w hSw; (try dsimp only at hSw); go_simp; try with_reducible rfl)
      try simp only [List.getElem_toArray, List.getElem_cons_succ, List.getElem_cons_zero, Act.put, List.setIfInBounds_toArray, List.set_cons_zero, List.set_cons_succ]
      refine wpAnyH_done (by kernel_rfl) ?_ _
      clear hHeld KEEP
      clear hod hkp z1 z2 z3 z4 z5 z6 z6b z7 HPV2 HPB
      have HM6 := Lib.hid (HM5.out.below HG0.out)
      have HB6 := Lib.hid (HB5.out.trans (HG0.out.mono hBW5))
      have HKX6 := Lib.hid (HKX5.out.same (same_below HG0.out) HKX5.out.lt)
      have HXL := Lib.hid HKX6.out.lt
      clear HM5 HB5 HKX5
      have hBW6 : B ≤ wq.heap.size := Nat.le_trans HBS.out HB6.out.size
      have hlk := HM6.out.map.look_ok (T := 64) (Maps.string_keyed Tryd.underlying9) Tryd.underlying64 (fun w => by kernel_rfl) (keyT x.id HXI.out) (by trivial)
      have hkey := HM6.out.key x.id
      rw [hkey] at hlk
      clear hkey
      have hHd : headF l k = 0 := by rw [HHD2.out]; exact HOR.out
      have HFO2 : Hid (folF l k = (stepR rs x).1) := Lib.hid (HFO.out.trans (if_neg (by rw [hHd]; decide)))
      clear hHd HFO
      have x0 : wq.cell? ⟨xb, 0, none⟩ = some (.string (bstr x.id)) := HKX6.out.cell 0
      have x1 : wq.cell? ⟨xb, 1, none⟩ = some (.int .i64 x.kind) := HKX6.out.cell 1
      have x2 : wq.cell? ⟨xb, 2, none⟩ = some (.int .i64 x.at_) := HKX6.out.cell 2
      have x3 : wq.cell? ⟨xb, 3, none⟩ = some (.string (bstr x.pre)) := HKX6.out.cell 3
      cases hix : reqIx rs x.id with
      | none =>
        rw [hix] at hlk
        simp only [Option.map_none, Option.getD_none, Option.isSome_none] at hlk
        by_cases hk1 : x.kind = 1
        case neg =>
          have HF : Hid (appsFault l = 9) := Lib.hid (F1.out _ (HFO2.out.trans (by unfold stepR; rw [hix]; simp [hk1])) (by decide))
          have hkb : (x.kind == (1 : Int)) = false := by simpa using hk1
          generalize x.kind = xk at *
          go_wp2_with fail
          go_ret2
          exact fol_bad HF.out (by decide) (by rw [← HBE.out]; exact HB6.out)
        have HST : Hid (stepR rs x = (0, rs ++ [newR x])) := Lib.hid (by unfold stepR; rw [hix]; simp [hk1])
        have HSN : Hid (∀ j, j < k + 1 → folF l j = 0) := Lib.hid (G5.out (HFO2.out.trans (by rw [HST.out])))
        have HRS2 : Hid (rsAt l (k + 1) = rs ++ [newR x]) := Lib.hid (HRS.out.trans (by rw [HST.out]))
        have HIX := Lib.hid hix
        have hkb : (x.kind == (1 : Int)) = true := by simpa using hk1
        have HK1 := Lib.hid hk1
        clear hix hk1 G5 F1 HRS HFO2 HST
        have HGL := Lib.hid HM6.out.o.len
        have HAL := Lib.hid ((Below.refl wq.heap.size wq).alloc (Nat.le_refl _) (.cells #[.string (bstr x.id), .int .i64 x.kind, .int .i64 x.at_, .string (bstr x.pre), .int .i64 2, .bool false, .int .i64 (-1)] 48))
        have HM7 := Lib.hid (HM6.out.below HAL.out)
        have HB7 := Lib.hid (HB6.out.trans (HAL.out.mono hBW6))
        have HKX7 := Lib.hid (HKX6.out.same (same_below HAL.out) HKX6.out.lt)
        have HKG7 : Hid (Blk (wq.alloc (.cells #[.string (bstr x.id), .int .i64 x.kind, .int .i64 x.at_, .string (bstr x.pre), .int .i64 2, .bool false, .int .i64 (-1)] 48)) wq.heap.size 48 (reqCells (newR x))) := Lib.hid (Blk.new wq 48 [.string (bstr x.id), .int .i64 x.kind, .int .i64 x.at_, .string (bstr x.pre), .int .i64 2, .bool false, .int .i64 (-1)])
        have HNG : Hid (wq.heap.size ∉ gs ∧ wq.heap.size ∉ hs) := Lib.hid ⟨fun h => by have := HM6.out.o.lt h; omega, fun h => by have := HM6.out.nw.lt h; omega⟩
        have HNB : Hid (∀ q, u8.ownBlock = some q → q < wq.heap.size) := Lib.hid (fun q hq => (HM6.out.nw.row.lt q hq).2)
        clear HM6 HB6 HKX6 HAL
        go_wp2_with fail
        clear x0 x1 x2 x3 hlk
        obtain ⟨gb, hgb⟩ : ∃ gb, gb = wq.heap.size := ⟨_, rfl⟩
        rw [← hgb] at HKG7 HNG ⊢
        have hBg : B ≤ gb := by omega
        have hgb7 : gb < (wq.alloc (.cells #[.string (bstr x.id), .int .i64 x.kind, .int .i64 x.at_, .string (bstr x.pre), .int .i64 2, .bool false, .int .i64 (-1)] 48)).heap.size := HKG7.out.lt
        rw [← hgb] at HNB
        clear hgb
        generalize wq.alloc (.cells #[.string (bstr x.id), .int .i64 x.kind, .int .i64 x.at_, .string (bstr x.pre), .int .i64 2, .bool false, .int .i64 (-1)] 48) = w7 at *
        have KEEP : Hid (∀ w', Below w7.heap.size w7 w' → (w'.cell? ⟨xb, 0, none⟩ = some (.string (bstr x.id)))) := Lib.hid (fun w' hg => (HKX7.out.same (same_below hg) HKX7.out.lt).cell 0)
        refine wp_region_held_drew (S := fun w' => w'.cell? ⟨xb, 0, none⟩ = some (.string (bstr x.id))) (by kernel_rfl) (KEEP.out _ (Below.drew (Below.refl _ _))) (fun hHeld => ?_)
        obtain ⟨wd, hwd⟩ : ∃ wd, wd = World.drew w7 := ⟨_, rfl⟩
        have HG0 : Hid (Below w7.heap.size w7 wd) := Lib.hid (by rw [hwd]; exact Below.drew (Below.refl _ _))
        rw [← hwd] at hHeld ⊢
        clear hwd
        refine wpAnyH_take (i := 0) (v := ?_) rfl (by kernel_rfl) (by kernel_rfl) (by kernel_rfl) (fun _ _ _ h => h) (Or.inl ⟨by rfl, ?_⟩) (by assumption) ?_
        rotate_left
        · (intro w hSw; (try dsimp only at hSw); go_simp; try with_reducible rfl)
        try simp only [List.getElem_toArray, List.getElem_cons_succ, List.getElem_cons_zero, Act.put, List.setIfInBounds_toArray, List.set_cons_zero, List.set_cons_succ]
        refine wpAnyH_take (i := 1) (v := ?_) rfl (by kernel_rfl) (by kernel_rfl) (by kernel_rfl) (fun _ _ _ h => h) (Or.inl ⟨by rfl, ?_⟩) (by assumption) ?_
        rotate_left
        · (intro w hSw; (try dsimp only at hSw); go_simp; try with_reducible rfl)
        try simp only [List.getElem_toArray, List.getElem_cons_succ, List.getElem_cons_zero, Act.put, List.setIfInBounds_toArray, List.set_cons_zero, List.set_cons_succ]
        refine wpAnyH_take (i := 2) (v := ?_) rfl (by kernel_rfl) (by kernel_rfl) (by kernel_rfl) (fun _ _ _ h => h) (Or.inl ⟨by rfl, ?_⟩) (by assumption) ?_
        rotate_left
        · (intro w hSw; (try dsimp only at hSw); go_simp; try with_reducible rfl)
        try simp only [List.getElem_toArray, List.getElem_cons_succ, List.getElem_cons_zero, Act.put, List.setIfInBounds_toArray, List.set_cons_zero, List.set_cons_succ]
        refine wpAnyH_take (i := 3) (v := ?_) rfl (by kernel_rfl) (by kernel_rfl) (by kernel_rfl) (fun _ _ _ h => h) (Or.inl ⟨by rfl, ?_⟩) (by assumption) ?_
        rotate_left
        · (intro w hSw; (try dsimp only at hSw); go_simp; try with_reducible rfl)
        try simp only [List.getElem_toArray, List.getElem_cons_succ, List.getElem_cons_zero, Act.put, List.setIfInBounds_toArray, List.set_cons_zero, List.set_cons_succ]
        refine wpAnyH_take (i := 4) (v := ?_) rfl (by kernel_rfl) (by kernel_rfl) (by kernel_rfl) (fun _ _ _ h => h) (Or.inl ⟨by rfl, ?_⟩) (by assumption) ?_
        rotate_left
        · (intro w hSw; (try dsimp only at hSw); go_simp; try with_reducible rfl)
        try simp only [List.getElem_toArray, List.getElem_cons_succ, List.getElem_cons_zero, Act.put, List.setIfInBounds_toArray, List.set_cons_zero, List.set_cons_succ]
        refine wpAnyH_take (i := 5) (v := ?_) rfl (by kernel_rfl) (by kernel_rfl) (by kernel_rfl) (fun _ _ _ h => h) (Or.inl ⟨by rfl, ?_⟩) (by assumption) ?_
        rotate_left
        · (intro w hSw; (try dsimp only at hSw); go_simp; try with_reducible rfl)
        try simp only [List.getElem_toArray, List.getElem_cons_succ, List.getElem_cons_zero, Act.put, List.setIfInBounds_toArray, List.set_cons_zero, List.set_cons_succ]
        have HM8 := Lib.hid (HM7.out.below HG0.out)
        have HKG8 := Lib.hid (HKG7.out.same (same_below HG0.out) hgb7)
        have HKX8 := Lib.hid (HKX7.out.same (same_below HG0.out) HKX7.out.lt)
        have HB8 := Lib.hid (HB7.out.trans (HG0.out.mono (Nat.le_trans HBS.out HB7.out.size)))
        have hBd : B ≤ wd.heap.size := Nat.le_trans HBS.out HB8.out.size
        have hglc : gs.length ≤ 1000 := by have := HGL.out; omega
        have hgd : gb < wd.heap.size := HKG8.out.lt
        have HKXA := Lib.hid (HKX8.out.same (same_below ((Below.refl wd.heap.size wd).alloc (Nat.le_refl _) (.cells #[.pointer (some ⟨gb, 0, none⟩)] 46))) HKX8.out.lt)
        refine wpAnyH_ready (rs := [6]) (by kernel_rfl) (by simp) ?_
        refine AllReadyH.cons rfl (fun K hK => ?_) AllReadyH.nil
        rw [if_pos (by rfl)]
        simp only [List.getElem_toArray, List.getElem_cons_succ, List.getElem_cons_zero]
        go_simp
        refine hK.out _ _ (HKXA.out.cell 0) (fun hHeld => ?_)
        clear hK K
        try simp only [List.getElem_toArray, List.getElem_cons_succ, List.getElem_cons_zero, Act.put, List.setIfInBounds_toArray, List.set_cons_zero, List.set_cons_succ]
        refine wpAnyH_ready (rs := [7]) (by kernel_rfl) (by simp) ?_
        refine AllReadyH.cons rfl (fun K hK => ?_) AllReadyH.nil
        refine step_app_new (w := wd) (by rfl) (.tmp 78) (.tmp 80) 36 (by rfl) 46 (.pointer none) 1 8 Tryd.underlying36 ptr_info rfl (by decide) (m := 1) [.pointer (some ⟨gb, 0, none⟩)] 0 rfl HM8.out.o.row hBd rfl rfl rfl (by decide) (by simp [Value.oneCell']) (by unfold maxLen; omega) (by omega) ?_
        intro g9 c9 w9 HO9 HG9 HE9 HL9
        have HO' := Lib.hid (HM8.out.o.push HG9.out HO9.out HKG8.out hBg)
        have HN' : Hid (RowR B (nowAt l at_ k) hs u8 w9) := Lib.hid (HM8.out.nw.kept HG9.out HM8.out.sep (fun q hq => HM8.out.nw.notRow hq HM8.out.o.row))
        have HV9 := Lib.hid (HM8.out.map.grown HG9.out (HM8.out.map.notRow HM8.out.o.row))
        have HKX9 := Lib.hid (HKX8.out.same (grown_same HG9.out) ⟨HKX8.out.lt, blk_not_row HKX8.out HM8.out.o.row (by decide)⟩)
        have HB9 := Lib.hid (HB8.out.grown HG9.out hBd (fun j hj => (HM8.out.o.row.lt j hj).1))
        have HSP : Hid (u8.ownBlock = none ∨ u8.ownBlock ≠ (Value.slice (some ⟨g9, 0, none⟩) (gs.length + 1) c9).ownBlock) := Lib.hid (by
          rcases HL9.out with h | h
          · rw [show (Value.slice (some ⟨g9, 0, none⟩) (gs.length + 1) c9).ownBlock = some g9 from rfl, ← h]; exact HM8.out.sep
          · right
            intro e
            have e2 : u8.ownBlock = some g9 := e
            have := HNB.out g9 e2
            omega)
        refine hK.out _ _ (HKX9.out.cell 0) (fun hHeld => ?_)
        clear hK K
        try simp only [List.getElem_toArray, List.getElem_cons_succ, List.getElem_cons_zero, Act.put, List.setIfInBounds_toArray, List.set_cons_zero, List.set_cons_succ]
        refine wpAnyH_ready (rs := [8]) (by kernel_rfl) (by simp) ?_
        refine AllReadyH.cons rfl (fun K hK => ?_) AllReadyH.nil
        refine step_vmap_upd (by rfl) _ _ _ 64 rfl HV9.out (Maps.string_keyed Tryd.underlying9) Tryd.underlying64 (by unfold maxLen; omega) (.string x.id) (.pointer (some ⟨gb, 0, none⟩)) rfl rfl rfl (keyT x.id HXI.out) (by trivial) ?_
        intro w10 HV10 HG10
        have HKX10 := Lib.hid (HKX9.out.same (grown_same HG10.out) ⟨HKX9.out.lt, fun e => blk_not_map HV9.out HKX9.out (Option.some.inj e)⟩)
        have HFN0 := Lib.hid (HM8.out.more HIX.out (HO'.out.kept HG10.out (.inr (HV9.out.notRow HO'.out.row).symm) (fun q hq e => by
          obtain ⟨i, hi, rfl⟩ := List.mem_iff_getElem.1 hq
          exact blk_not_map HV9.out (HO'.out.blk i hi (by rw [← HO'.out.len]; exact hi)) (Option.some.inj e)))
          (HN'.out.kept HG10.out (.inr (HV9.out.notRow HN'.out.row).symm) (fun q hq e => by
          obtain ⟨i, hi, rfl⟩ := List.mem_iff_getElem.1 hq
          exact blk_not_map HV9.out (HN'.out.blk i hi (by rw [← HN'.out.len]; exact hi)) (Option.some.inj e))) HV10.out HNG.out.1 HNG.out.2 HSP.out)
        have HBN := Lib.hid (HB9.out.grown HG10.out (Nat.le_trans HBS.out HB9.out.size) (fun j hj => by have := Option.some.inj hj; omega))
        refine hK.out _ _ (HKX10.out.cell 0) (fun hHeld => ?_)
        clear hK K
        try simp only [List.getElem_toArray, List.getElem_cons_succ, List.getElem_cons_zero, Act.put, List.setIfInBounds_toArray, List.set_cons_zero, List.set_cons_succ]
        refine wpAnyH_take (i := 9) (v := ?_) rfl (by kernel_rfl) (by kernel_rfl) (by kernel_rfl) (fun _ _ _ h => h) (Or.inl ⟨by rfl, ?_⟩) (by assumption) ?_
        rotate_left
        · (intro w hSw; (try dsimp only at hSw); go_simp; try with_reducible rfl)
        try simp only [List.getElem_toArray, List.getElem_cons_succ, List.getElem_cons_zero, Act.put, List.setIfInBounds_toArray, List.set_cons_zero, List.set_cons_succ]
        refine wpAnyH_done (by kernel_rfl) ?_ _
        clear hHeld KEEP HO' HN' HV9 HKX9 HB9 HSP HV10 HG10 HM8 HKG8 HKX8 HB8 HO9 HG9 HE9 HL9 HKXA HM7 HB7 HKX7 HKG7
        have HKXN := HKX10
        obtain ⟨rs2, hrs2⟩ : ∃ rs2, rs2 = rs ++ [newR x] := ⟨_, rfl⟩
        obtain ⟨gs2, hgs2⟩ : ∃ gs2, gs2 = gs ++ [gb] := ⟨_, rfl⟩
        obtain ⟨f2, hf2⟩ : ∃ f2, f2 = (fun y : Lit => if y.sameKey (.string x.id) then some (Value.pointer (some ⟨gb, 0, none⟩)) else f y) := ⟨_, rfl⟩
        obtain ⟨L, hL⟩ : ∃ L, L = gs.length + 1 := ⟨_, rfl⟩
        have HLE : Hid (L = gs2.length ∧ gs2.length = rs2.length ∧ rs2.length ≤ k + 1) := Lib.hid ⟨by rw [hgs2, hL]; simp, by rw [hgs2, hrs2]; simp [HGL.out], by rw [hrs2]; simp; omega⟩
        have HFN : Hid (FSt B rs2 (nowAt l at_ k) gs2 hs (.slice (some ⟨g9, 0, none⟩) L c9) u8 B (n + 1) f2 w10) := Lib.hid (by rw [hrs2, hgs2, hf2, hL]; exact HFN0.out)
        rw [← hrs2] at HRS2
        rw [← hL]
        obtain ⟨n2, hn2⟩ : ∃ n2, n2 = n + 1 := ⟨_, rfl⟩
        rw [← hn2] at HFN
        have hn2k : n2 ≤ k + 1 := by omega
        have hLb : L ≤ k + 1 := by have := HLE.out; omega
        clear hrs2 hgs2 hf2 hL HFN0 hn2
        have x2 : w10.cell? ⟨xb, 2, none⟩ = some (.int .i64 x.at_) := HKXN.out.cell 2
        by_cases hat : x.at_ ≤ at_
        case neg =>
          have HNE := Lib.hid (HNW.out.trans (if_neg hat))
          clear HNW
          go_wp2_with fail
          go_roundw
          case rel => first | exact ⟨k + 1, n2, f2, gs2, hs, _, _, rfl, rfl, by omega, by go_num, by omega, HSN, by rw [HRS2.out, HNE.out]; exact HFN, HBN⟩ | (repeat (apply Exists.intro); (refine And.intro ?_ ?_; rotate_left; (repeat' (first | exact rfl | apply And.intro)); exact ⟨k + 1, n2, f2, gs2, hs, _, _, rfl, rfl, by omega, by go_num, by omega, HSN, by rw [HRS2.out, HNE.out]; exact HFN, HBN⟩))
          case measure => simp [intOf]; omega
        have HNE := Lib.hid (HNW.out.trans (if_pos hat))
        clear HNW
        have HFR := Lib.hid HFN.out.reset
        clear HFN
        have hLx : L ≤ 100000 := by omega
        go_wp2_with fail
        clear x2
        go_loopw [8, 91] (fun vn vi wz => ∃ (m : Nat) (hs : List Nat), m ≤ L ∧ vi = .int .i64 m ∧ Hid (FSt B rs2 (rs2.take m) gs2 hs (.slice (some ⟨g9, 0, none⟩) L c9) vn B n2 f2 wz) ∧ Hid (Below B w wz)) (fun _ vi _ => L - (intOf vi).toNat)
        case atStart => exact ⟨0, [], by omega, rfl, by rw [List.take_zero]; exact HFR, HBN⟩
        case round =>
          clear HFR HBN
          obtain ⟨m, hs, hm, rfl, HF, HBZ⟩ := hrel
          obtain ⟨Av, cv, hvv, hcv1, hcv2, _⟩ := own_form HF.out.nw.row
          subst hvv
          have hhl := HF.out.nw.len
          rw [List.length_take] at hhl
          by_cases hml : m < L
          · have hmg : m < gs2.length := by have := HLE.out; omega
            have hmr : m < rs2.length := by have := HLE.out; omega
            obtain ⟨g, c, e1, e0⟩ := HF.out.o.cell hmg
            injection e1 with e1 q2 q3
            injection e1 with e1
            injection e1 with e1 q4
            subst e1
            clear q2 q3
            have hblk := HF.out.o.blk m hmg hmr
            have hlow := HF.out.o.low _ (List.getElem_mem hmg)
            have HTK : Hid (rs2.take (m + 1) = rs2.take m ++ [rs2[m]]) := Lib.hid (List.take_succ_eq_append_getElem hmr)
            generalize gs2[m] = gm at *
            generalize rs2[m] = r at *
            have HBR := Lib.hid hblk
            have r0 : wr.cell? ⟨gm, 0, none⟩ = some (.string (bstr r.ask.id)) := hblk.cell 0
            have r1 : wr.cell? ⟨gm, 1, none⟩ = some (.int .i64 r.ask.kind) := hblk.cell 1
            have r2 : wr.cell? ⟨gm, 2, none⟩ = some (.int .i64 r.ask.at_) := hblk.cell 2
            have r3 : wr.cell? ⟨gm, 3, none⟩ = some (.string (bstr r.ask.pre)) := hblk.cell 3
            have r4 : wr.cell? ⟨gm, 4, none⟩ = some (.int .i64 r.state) := hblk.cell 4
            have r5 : wr.cell? ⟨gm, 5, none⟩ = some (.bool r.grant) := hblk.cell 5
            have r6 : wr.cell? ⟨gm, 6, none⟩ = some (.int .i64 r.end_) := hblk.cell 6
            have HAL := Lib.hid ((Below.refl wr.heap.size wr).alloc (Nat.le_refl _) (.cells #[.string (bstr r.ask.id), .int .i64 r.ask.kind, .int .i64 r.ask.at_, .string (bstr r.ask.pre), .int .i64 r.state, .bool r.grant, .int .i64 r.end_] 48))
            have HF2 := Lib.hid (HF.out.below HAL.out)
            have HKN := Lib.hid (Blk.new wr 48 [.string (bstr r.ask.id), .int .i64 r.ask.kind, .int .i64 r.ask.at_, .string (bstr r.ask.pre), .int .i64 r.state, .bool r.grant, .int .i64 r.end_])
            have HBZ2 := Lib.hid (HBZ.out.trans (HAL.out.mono (Nat.le_trans HBS.out HBZ.out.size)))
            have HFRESH : Hid (wr.heap.size ∉ gs2) := Lib.hid (fun h => by have := HF.out.o.lt h; omega)
            have HOL : Hid (∀ p, (Value.slice (some ⟨g9, 0, none⟩) L c9).ownBlock = some p → p < wr.heap.size) := Lib.hid (fun p hp => (HF.out.o.row.lt p hp).2)
            have hBz : B ≤ wr.heap.size := Nat.le_trans HBS.out HBZ.out.size
            have hhm : hs.length ≤ 100000 := by omega
            clear hblk hhl
            go_wp2_with (at_builtin; go_must (refine app_new (w := wr.alloc (.cells #[.string (bstr r.ask.id), .int .i64 r.ask.kind, .int .i64 r.ask.at_, .string (bstr r.ask.pre), .int .i64 r.state, .bool r.grant, .int .i64 r.end_] 48)) rfl (.tmp 98) (.tmp 99) 36 rfl 46 (.pointer none) 1 8 Tryd.underlying36 ptr_info rfl (by decide) (m := 1) [.pointer (some ⟨wr.heap.size, 0, none⟩)] HF2.out.nw.row (Nat.le_trans HBS.out HBZ2.out.size) rfl (by rw [World.size_alloc]; rfl) rfl (by decide) (by simp [Value.oneCell']) (by unfold maxLen; omega) (by omega) ?_); intro g8 c8 w8 HO8 HG8 HE8 HL8)
            have HFC := Lib.hid (HF2.out.copy HG8.out HO8.out HKN.out hBz HFRESH.out (by
              rcases HL8.out with h | h
              · exact .inl h
              · exact .inr ⟨g8, rfl, fun p hp => by have := HOL.out p hp; simp only [World.size_alloc] at h; omega⟩))
            have HB8 := Lib.hid (HBZ2.out.grown HG8.out (Nat.le_trans HBS.out HBZ2.out.size) (fun j hj => (HF2.out.nw.row.lt j hj).1))
            go_roundw
            case rel => first | exact ⟨m + 1, hs ++ [wr.heap.size], by omega, by go_num, by rw [HTK.out]; exact HFC, HB8⟩ | (repeat (apply Exists.intro); (refine And.intro ?_ ?_; rotate_left; (repeat' (first | exact rfl | apply And.intro)); exact ⟨m + 1, hs ++ [wr.heap.size], by omega, by go_num, by rw [HTK.out]; exact HFC, HB8⟩))
            case measure => simp [intOf]; omega
          · obtain rfl : m = L := by omega
            have HTA : Hid (rs2.take m = rs2) := Lib.hid (List.take_of_length_le (by have := HLE.out; omega))
            go_wp2_with fail
            go_roundw
            case rel => first | exact ⟨k + 1, n2, f2, gs2, hs, _, _, rfl, rfl, by omega, by go_num, by omega, HSN, by rw [HNE.out, HRS2.out]; have h := HF.out; rw [HTA.out] at h; exact h, HBZ⟩ | (repeat (apply Exists.intro); (refine And.intro ?_ ?_; rotate_left; (repeat' (first | exact rfl | apply And.intro)); exact ⟨k + 1, n2, f2, gs2, hs, _, _, rfl, rfl, by omega, by go_num, by omega, HSN, by rw [HNE.out, HRS2.out]; have h := HF.out; rw [HTA.out] at h; exact h, HBZ⟩))
            case measure => simp [intOf]; omega
      | some i =>
        rw [hix] at hlk
        simp only [Option.map_some, Option.getD_some, Option.isSome_some] at hlk
        obtain ⟨hi, hid⟩ := reqIx_some hix
        have hgl := HM6.out.o.len
        have hig : i < gs.length := by omega
        have HGL := Lib.hid hgl
        clear hgl
        rw [show gs.getD i 0 = gs[i] by rw [List.getD_eq_getElem?_getD, List.getElem?_eq_getElem hig]; rfl] at hlk
        by_cases hk1 : x.kind = 1
        · have HF : Hid (appsFault l = 7) := Lib.hid (F1.out _ (HFO2.out.trans (by unfold stepR; rw [hix]; simp [hk1])) (by decide))
          have hkb : (x.kind == (1 : Int)) = true := by simpa using hk1
          generalize x.kind = xk at *
          go_wp2_with fail
          go_ret2
          exact fol_bad HF.out (by decide) (by rw [← HBE.out]; exact HB6.out)
        have hkr := appF_kind HQ1.out
        have HST : Hid (stepR rs x = match takeR rs[i] x with | none => (11, rs) | some r => (0, rs.set i r)) := Lib.hid (by unfold stepR; rw [hix]; simp only [if_neg hk1]; rw [getD_at rs _ hi]; split <;> simp_all)
        have HTA := Lib.hid (take_any rs[i] x gs[i] wq (HM6.out.o.blk i hig hi) (by omega))
        have hkb : (x.kind == (1 : Int)) = false := by simpa using hk1
        clear hix hk1
        obtain ⟨go, co, hvo, _⟩ := HM6.out.o.cell hig
        subst hvo
        generalize hgi : gs[i] = gi at *
        have HGI := Lib.hid hgi
        clear hgi
        go_wp2_with fail
        refine HTA.out.mono ?_
        rintro e w8 ⟨ff, r', rfl, hg, hk', hft⟩
        have HG8 := Lib.hid hg
        have HKR := Lib.hid hk'
        clear hg hk' x0 x1 x2 x3 hlk
        have hgiB : B ≤ gi := by rw [← HGI.out]; exact HM6.out.o.low _ (List.getElem_mem hig)
        have HB8 := Lib.hid (HB6.out.grown HG8.out hBW6 (fun j e => by have := Option.some.inj e; omega))
        rcases hft with ⟨rfl, ht⟩ | ⟨rfl, ht, _⟩
        case inr =>
          have HF : Hid (appsFault l = 11) := Lib.hid (F1.out _ (HFO2.out.trans (by rw [HST.out, ht])) (by decide))
          go_wp2_with fail
          go_ret2
          exact fol_bad HF.out (by decide) (by rw [← HBE.out]; exact HB8.out)
        have HST2 : Hid (stepR rs x = (0, rs.set i r')) := Lib.hid (by rw [HST.out, ht])
        have HSN : Hid (∀ j, j < k + 1 → folF l j = 0) := Lib.hid (G5.out (HFO2.out.trans (by rw [HST2.out])))
        have HRS3 : Hid (rsAt l (k + 1) = rs.set i r') := Lib.hid (HRS.out.trans (by rw [HST2.out]))
        have HFN0 : Hid (FSt B (rs.set i r') (nowAt l at_ k) gs hs (.slice (some ⟨go, 0, none⟩) gs.length co) u8 B n f w8) := Lib.hid (HM6.out.take hig hi (by rw [HGI.out]; exact HG8.out) (by rw [HGI.out]; exact HKR.out) (takeR_ask ht))
        have hxg : xb ≠ gi := by
          have h1 := HM6.out.o.blk i hig hi
          rw [HGI.out] at h1
          exact HKX6.out.ne h1 (by decide)
        have HKXN := Lib.hid (HKX6.out.same (grown_same HG8.out) ⟨HKX6.out.lt, fun e => hxg (Option.some.inj e)⟩)
        have HBN := HB8
        clear ht HST HST2 HTA HFO2 F1 G5 HRS HKR HG8 HM6 HB6 HKX6 HB8 hxg
        obtain ⟨rs2, hrs2⟩ : ∃ rs2, rs2 = rs.set i r' := ⟨_, rfl⟩
        obtain ⟨L, hL⟩ : ∃ L, L = gs.length := ⟨_, rfl⟩
        have HLE : Hid (L = gs.length ∧ gs.length = rs2.length ∧ rs2.length ≤ k + 1) := Lib.hid ⟨hL, by rw [hrs2]; simp [HGL.out], by rw [hrs2]; simp; omega⟩
        have HFN : Hid (FSt B rs2 (nowAt l at_ k) gs hs (.slice (some ⟨go, 0, none⟩) L co) u8 B n f w8) := Lib.hid (by rw [hrs2, hL]; exact HFN0.out)
        have HRS2 : Hid (rsAt l (k + 1) = rs2) := Lib.hid (by rw [hrs2]; exact HRS3.out)
        rw [← hL]
        have hLb : L ≤ k + 1 := by have := HLE.out; omega
        clear hrs2 hL HFN0 HRS3
        have x2 : w8.cell? ⟨xb, 2, none⟩ = some (.int .i64 x.at_) := HKXN.out.cell 2
        by_cases hat : x.at_ ≤ at_
        case neg =>
          have HNE := Lib.hid (HNW.out.trans (if_neg hat))
          clear HNW
          go_wp2_with fail
          go_roundw
          case rel => first | exact ⟨k + 1, n, f, gs, hs, _, _, rfl, rfl, by omega, by go_num, by omega, HSN, by rw [HRS2.out, HNE.out]; exact HFN, HBN⟩ | (repeat (apply Exists.intro); (refine And.intro ?_ ?_; rotate_left; (repeat' (first | exact rfl | apply And.intro)); exact ⟨k + 1, n, f, gs, hs, _, _, rfl, rfl, by omega, by go_num, by omega, HSN, by rw [HRS2.out, HNE.out]; exact HFN, HBN⟩))
          case measure => simp [intOf]; omega
        have HNE := Lib.hid (HNW.out.trans (if_pos hat))
        clear HNW
        have HFR := Lib.hid HFN.out.reset
        clear HFN
        have hLx : L ≤ 100000 := by omega
        go_wp2_with fail
        clear x2
        go_loopw [8, 91] (fun vn vi wz => ∃ (m : Nat) (hs : List Nat), m ≤ L ∧ vi = .int .i64 m ∧ Hid (FSt B rs2 (rs2.take m) gs hs (.slice (some ⟨go, 0, none⟩) L co) vn B n f wz) ∧ Hid (Below B w wz)) (fun _ vi _ => L - (intOf vi).toNat)
        case atStart => exact ⟨0, [], by omega, rfl, by rw [List.take_zero]; exact HFR, HBN⟩
        case round =>
          clear HFR HBN
          obtain ⟨m, hs, hm, rfl, HF, HBZ⟩ := hrel
          obtain ⟨Av, cv, hvv, hcv1, hcv2, _⟩ := own_form HF.out.nw.row
          subst hvv
          have hhl := HF.out.nw.len
          rw [List.length_take] at hhl
          by_cases hml : m < L
          · have hmg : m < gs.length := by have := HLE.out; omega
            have hmr : m < rs2.length := by have := HLE.out; omega
            obtain ⟨g, c, e1, e0⟩ := HF.out.o.cell hmg
            injection e1 with e1 q2 q3
            injection e1 with e1
            injection e1 with e1 q4
            subst e1
            clear q2 q3
            have hblk := HF.out.o.blk m hmg hmr
            have hlow := HF.out.o.low _ (List.getElem_mem hmg)
            have HTK : Hid (rs2.take (m + 1) = rs2.take m ++ [rs2[m]]) := Lib.hid (List.take_succ_eq_append_getElem hmr)
            generalize gs[m] = gm at *
            generalize rs2[m] = r at *
            have HBR := Lib.hid hblk
            have r0 : wr.cell? ⟨gm, 0, none⟩ = some (.string (bstr r.ask.id)) := hblk.cell 0
            have r1 : wr.cell? ⟨gm, 1, none⟩ = some (.int .i64 r.ask.kind) := hblk.cell 1
            have r2 : wr.cell? ⟨gm, 2, none⟩ = some (.int .i64 r.ask.at_) := hblk.cell 2
            have r3 : wr.cell? ⟨gm, 3, none⟩ = some (.string (bstr r.ask.pre)) := hblk.cell 3
            have r4 : wr.cell? ⟨gm, 4, none⟩ = some (.int .i64 r.state) := hblk.cell 4
            have r5 : wr.cell? ⟨gm, 5, none⟩ = some (.bool r.grant) := hblk.cell 5
            have r6 : wr.cell? ⟨gm, 6, none⟩ = some (.int .i64 r.end_) := hblk.cell 6
            have HAL := Lib.hid ((Below.refl wr.heap.size wr).alloc (Nat.le_refl _) (.cells #[.string (bstr r.ask.id), .int .i64 r.ask.kind, .int .i64 r.ask.at_, .string (bstr r.ask.pre), .int .i64 r.state, .bool r.grant, .int .i64 r.end_] 48))
            have HF2 := Lib.hid (HF.out.below HAL.out)
            have HKN := Lib.hid (Blk.new wr 48 [.string (bstr r.ask.id), .int .i64 r.ask.kind, .int .i64 r.ask.at_, .string (bstr r.ask.pre), .int .i64 r.state, .bool r.grant, .int .i64 r.end_])
            have HBZ2 := Lib.hid (HBZ.out.trans (HAL.out.mono (Nat.le_trans HBS.out HBZ.out.size)))
            have HFRESH : Hid (wr.heap.size ∉ gs) := Lib.hid (fun h => by have := HF.out.o.lt h; omega)
            have HOL : Hid (∀ p, (Value.slice (some ⟨go, 0, none⟩) L co).ownBlock = some p → p < wr.heap.size) := Lib.hid (fun p hp => (HF.out.o.row.lt p hp).2)
            have hBz : B ≤ wr.heap.size := Nat.le_trans HBS.out HBZ.out.size
            have hhm : hs.length ≤ 100000 := by omega
            clear hblk hhl
            go_wp2_with (at_builtin; go_must (refine app_new (w := wr.alloc (.cells #[.string (bstr r.ask.id), .int .i64 r.ask.kind, .int .i64 r.ask.at_, .string (bstr r.ask.pre), .int .i64 r.state, .bool r.grant, .int .i64 r.end_] 48)) rfl (.tmp 98) (.tmp 99) 36 rfl 46 (.pointer none) 1 8 Tryd.underlying36 ptr_info rfl (by decide) (m := 1) [.pointer (some ⟨wr.heap.size, 0, none⟩)] HF2.out.nw.row (Nat.le_trans HBS.out HBZ2.out.size) rfl (by rw [World.size_alloc]; rfl) rfl (by decide) (by simp [Value.oneCell']) (by unfold maxLen; omega) (by omega) ?_); intro g8 c8 w8 HO8 HG8 HE8 HL8)
            have HFC := Lib.hid (HF2.out.copy HG8.out HO8.out HKN.out hBz HFRESH.out (by
              rcases HL8.out with h | h
              · exact .inl h
              · exact .inr ⟨g8, rfl, fun p hp => by have := HOL.out p hp; simp only [World.size_alloc] at h; omega⟩))
            have HB8 := Lib.hid (HBZ2.out.grown HG8.out (Nat.le_trans HBS.out HBZ2.out.size) (fun j hj => (HF2.out.nw.row.lt j hj).1))
            go_roundw
            case rel => first | exact ⟨m + 1, hs ++ [wr.heap.size], by omega, by go_num, by rw [HTK.out]; exact HFC, HB8⟩ | (repeat (apply Exists.intro); (refine And.intro ?_ ?_; rotate_left; (repeat' (first | exact rfl | apply And.intro)); exact ⟨m + 1, hs ++ [wr.heap.size], by omega, by go_num, by rw [HTK.out]; exact HFC, HB8⟩))
            case measure => simp [intOf]; omega
          · obtain rfl : m = L := by omega
            have HTA : Hid (rs2.take m = rs2) := Lib.hid (List.take_of_length_le (by have := HLE.out; omega))
            go_wp2_with fail
            go_roundw
            case rel => first | exact ⟨k + 1, n, f, gs, hs, _, _, rfl, rfl, by omega, by go_num, by omega, HSN, by rw [HNE.out, HRS2.out]; have h := HF.out; rw [HTA.out] at h; exact h, HBZ⟩ | (repeat (apply Exists.intro); (refine And.intro ?_ ?_; rotate_left; (repeat' (first | exact rfl | apply And.intro)); exact ⟨k + 1, n, f, gs, hs, _, _, rfl, rfl, by omega, by go_num, by omega, HSN, by rw [HNE.out, HRS2.out]; have h := HF.out; rw [HTA.out] at h; exact h, HBZ⟩))
            case measure => simp [intOf]; omega
    · obtain rfl : k = l.length := by omega
      have HF := Lib.hid (apps_3 h5 HS.out)
      go_wp2_with fail
      go_ret2
      exact ⟨_, hs, by rw [HF.out]; rfl, by rw [folV, if_pos HF.out, ← HBE.out]; exact HM.out.nw, by rw [← HBE.out]; exact HB.out⟩
end Go.Proofs.YtgbpnghgcffkbaaDoor
