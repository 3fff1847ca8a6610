/-
  'standing' of the reference of chapter 10.
-/
import Derived.Test.YtgbpnghgcffkbaaDoorStAll
import Derived.Deep.Cut
namespace Go.Proofs.YtgbpnghgcffkbaaDoor
open Go.RowKit
set_option linter.unusedVariables false
set_option linter.unusedSimpArgs false

def StandPost (l : List App) (id : List UInt8) (w : World) (e : Ending) (w' : World) : Prop :=
  e = .returned (.tuple #[.agg (stpCells (stpAt l id l.length).1).toArray, .bool (stpAt l id l.length).2]) ∧ Below w.heap.size w w'
set_option maxRecDepth 100000 in
set_option maxHeartbeats 4000000 in
theorem standing_any (v : Value) (l : List App) (id : List UInt8) (w : World) (h0 : (Rp.sl appRp).ok w (· < w.heap.size) [v] l) :
    Calls Tryd.prog 26 #[v, .string (bstr id)] w (StandPost l id w) := by
  obtain ⟨A, cc, rfl, hl, hc, _⟩ := Rp.sl_open h0
  unfold maxLen at hc
  have H0 := Lib.hid h0
  clear h0
  have hb4 := (Below.refl w.heap.size w).alloc (Nat.le_refl _) (.cells #[.string { data := #[] }, .int .i64 0, .int .i64 0, .string { data := #[] }, .bool false, .int .i64 0, .int .i64 0] 60)
  have hb6 := hb4.alloc (by simp) (.cells #[.string { data := #[] }, .int .i64 0, .int .i64 0, .string { data := #[] }, .bool false, .int .i64 0, .int .i64 0] 60)
  have HB6 := Lib.hid hb6
  have HK4 := Lib.hid ((Blk.new w 60 (stpCells stpZero)).same (same_below ((Below.refl (w.alloc (.cells #[.string { data := #[] }, .int .i64 0, .int .i64 0, .string { data := #[] }, .bool false, .int .i64 0, .int .i64 0] 60)).heap.size _).alloc (Nat.le_refl _) (.cells #[.string { data := #[] }, .int .i64 0, .int .i64 0, .string { data := #[] }, .bool false, .int .i64 0, .int .i64 0] 60))) (Blk.new w 60 (stpCells stpZero)).lt)
  have HK6 : Hid (Blk ((w.alloc (.cells #[.string { data := #[] }, .int .i64 0, .int .i64 0, .string { data := #[] }, .bool false, .int .i64 0, .int .i64 0] 60)).alloc (.cells #[.string { data := #[] }, .int .i64 0, .int .i64 0, .string { data := #[] }, .bool false, .int .i64 0, .int .i64 0] 60)) (w.heap.size + 1) 60 (stpCells stpZero)) := Lib.hid (by
    have h := Blk.new (w.alloc (.cells #[.string { data := #[] }, .int .i64 0, .int .i64 0, .string { data := #[] }, .bool false, .int .i64 0, .int .i64 0] 60)) 60 (stpCells stpZero)
    rw [World.size_alloc] at h
    exact h)
  clear hb4 hb6
  go_enter Tryd.func26, Tryd.ntmps26
  go_wp2_with fail
  generalize ((w.alloc (.cells #[.string { data := #[] }, .int .i64 0, .int .i64 0, .string { data := #[] }, .bool false, .int .i64 0, .int .i64 0] 60)).alloc (.cells #[.string { data := #[] }, .int .i64 0, .int .i64 0, .string { data := #[] }, .bool false, .int .i64 0, .int .i64 0] 60)) = w0 at *
  obtain ⟨b4, hb4⟩ : ∃ b, b = w.heap.size := ⟨_, rfl⟩
  obtain ⟨b6, hb6⟩ : ∃ b, b = w.heap.size + 1 := ⟨_, rfl⟩
  have HNE : Hid (b4 ≠ b6) := Lib.hid (by omega)
  have HL : Hid (w.heap.size ≤ b4) := Lib.hid (by omega)
  have HL6 : Hid (w.heap.size ≤ b6) := Lib.hid (by omega)
  rw [← hb6] at HK6 ⊢
  rw [← hb4] at HK4 ⊢
  clear hb4 hb6
  go_loopw [7, 12] (fun vf vi wr => ∃ k : Nat, k ≤ l.length ∧ vf = .bool (stpAt l id k).2 ∧ vi = .int .i64 k ∧ Hid (Blk wr b6 60 (stpCells (stpAt l id k).1)) ∧ Hid (Blk wr b4 60 (stpCells stpZero)) ∧ Hid (Below w.heap.size w wr)) (fun _ vi _ => l.length - (intOf vi).toNat)
  case atStart => exact ⟨0, by omega, rfl, rfl, HK6, HK4, HB6⟩
  case round =>
    clear HB6 HK4 HK6
    obtain ⟨k, hk, rfl, rfl, HK6, HK4, HB⟩ := hrel
    by_cases hlt : k < l.length
    · obtain ⟨ad, c', e1, hadb, c0, c1, c2, c3, hz⟩ := app_at (Rp.below _ H0.out HB.out) hlt
      injection e1 with e1 e3 e2
      subst e1 e2
      clear e3 hz
      have HNX : Hid (stpAt l id (k + 1) = stpOne (stpAt l id k) l[k] id) := Lib.hid (by rw [stpAt, getD_at _ _ hlt])
      generalize l[k] = x at *
      generalize hst : stpAt l id k = st at *
      clear hst
      obtain ⟨s, fd⟩ := st
      dsimp only at HK6
      try dsimp only
      have hal := (Below.refl wr.heap.size wr).alloc (Nat.le_refl _) (.cells #[.string (bstr x.id), .int .i64 x.kind, .int .i64 x.at_, .string (bstr x.pre)] 42)
      have HBX := Lib.hid (HB.out.trans (hal.mono HB.out.size))
      have HK6X := Lib.hid (HK6.out.same (same_below hal) HK6.out.lt)
      have HK4X := Lib.hid (HK4.out.same (same_below hal) HK4.out.lt)
      have HKXX := Lib.hid (Blk.new wr 42 [.string (bstr x.id), .int .i64 x.kind, .int .i64 x.at_, .string (bstr x.pre)])
      have HB6L := Lib.hid HK6.out.lt
      clear hal HB HK6 HK4
      go_upto_region 6 with fail
      clear c0 c1 c2 c3
      obtain ⟨xb, hxb⟩ : ∃ xb, xb = wr.heap.size := ⟨_, rfl⟩
      have HXN : Hid (b6 ≠ xb) := Lib.hid (by have := HB6L.out; omega)
      rw [← hxb] at HKXX ⊢
      clear hxb
      generalize wr.alloc (.cells #[.string (bstr x.id), .int .i64 x.kind, .int .i64 x.at_, .string (bstr x.pre)] 42) = wx at *
      have x0 : wx.cell? ⟨xb, 0, none⟩ = some (.string (bstr x.id)) := HKXX.out.cell 0
      have x1 : wx.cell? ⟨xb, 1, none⟩ = some (.int .i64 x.kind) := HKXX.out.cell 1
      have x2 : wx.cell? ⟨xb, 2, none⟩ = some (.int .i64 x.at_) := HKXX.out.cell 2
      have x3 : wx.cell? ⟨xb, 3, none⟩ = some (.string (bstr x.pre)) := HKXX.out.cell 3
      by_cases he : x.id = id
      · have hbq : ((bstr x.id).toList == (bstr id).toList) = true := by rw [he]; simp
        go_upto_region 7 with fail
        clear hbq
        by_cases hk1 : x.kind = 1
        · have HN : Hid (stpAt l id (k + 1) = (⟨x, false, 0, 0⟩, true)) := Lib.hid (by rw [HNX.out, stpOne, if_neg (by simpa using he), if_pos hk1])
          have g0 := HK4X.out
          have g1 : Blk (wx.setCell ⟨b6, 0, none⟩ (.string (bstr x.id))) b4 60 (stpCells stpZero) := g0.same (grown_same (set_grownR _ b6 0 (.string (bstr x.id)))) ⟨g0.lt, fun e => HNE.out (Option.some.inj e)⟩
          have g2 : Blk ((wx.setCell ⟨b6, 0, none⟩ (.string (bstr x.id))).setCell ⟨b6, 1, none⟩ (.int .i64 1)) b4 60 (stpCells stpZero) := g1.same (grown_same (set_grownR _ b6 1 (.int .i64 1))) ⟨g1.lt, fun e => HNE.out (Option.some.inj e)⟩
          have g3 : Blk (((wx.setCell ⟨b6, 0, none⟩ (.string (bstr x.id))).setCell ⟨b6, 1, none⟩ (.int .i64 1)).setCell ⟨b6, 2, none⟩ (.int .i64 x.at_)) b4 60 (stpCells stpZero) := g2.same (grown_same (set_grownR _ b6 2 (.int .i64 x.at_))) ⟨g2.lt, fun e => HNE.out (Option.some.inj e)⟩
          have g4 : Blk ((((wx.setCell ⟨b6, 0, none⟩ (.string (bstr x.id))).setCell ⟨b6, 1, none⟩ (.int .i64 1)).setCell ⟨b6, 2, none⟩ (.int .i64 x.at_)).setCell ⟨b6, 3, none⟩ (.string (bstr x.pre))) b4 60 (stpCells stpZero) := g3.same (grown_same (set_grownR _ b6 3 (.string (bstr x.pre)))) ⟨g3.lt, fun e => HNE.out (Option.some.inj e)⟩
          have g5 : Blk (((((wx.setCell ⟨b6, 0, none⟩ (.string (bstr x.id))).setCell ⟨b6, 1, none⟩ (.int .i64 1)).setCell ⟨b6, 2, none⟩ (.int .i64 x.at_)).setCell ⟨b6, 3, none⟩ (.string (bstr x.pre))).setCell ⟨b6, 4, none⟩ (.bool false)) b4 60 (stpCells stpZero) := g4.same (grown_same (set_grownR _ b6 4 (.bool false))) ⟨g4.lt, fun e => HNE.out (Option.some.inj e)⟩
          have g6 : Blk ((((((wx.setCell ⟨b6, 0, none⟩ (.string (bstr x.id))).setCell ⟨b6, 1, none⟩ (.int .i64 1)).setCell ⟨b6, 2, none⟩ (.int .i64 x.at_)).setCell ⟨b6, 3, none⟩ (.string (bstr x.pre))).setCell ⟨b6, 4, none⟩ (.bool false)).setCell ⟨b6, 5, none⟩ (.int .i64 0)) b4 60 (stpCells stpZero) := g5.same (grown_same (set_grownR _ b6 5 (.int .i64 0))) ⟨g5.lt, fun e => HNE.out (Option.some.inj e)⟩
          have g7 : Blk (((((((wx.setCell ⟨b6, 0, none⟩ (.string (bstr x.id))).setCell ⟨b6, 1, none⟩ (.int .i64 1)).setCell ⟨b6, 2, none⟩ (.int .i64 x.at_)).setCell ⟨b6, 3, none⟩ (.string (bstr x.pre))).setCell ⟨b6, 4, none⟩ (.bool false)).setCell ⟨b6, 5, none⟩ (.int .i64 0)).setCell ⟨b6, 6, none⟩ (.int .i64 0)) b4 60 (stpCells stpZero) := g6.same (grown_same (set_grownR _ b6 6 (.int .i64 0))) ⟨g6.lt, fun e => HNE.out (Option.some.inj e)⟩
          have HGS := Lib.hid g7
          clear g0 g1 g2 g3 g4 g5 g6 g7
          have HBS : Hid (Below w.heap.size w (((((((wx.setCell ⟨b6, 0, none⟩ (.string (bstr x.id))).setCell ⟨b6, 1, none⟩ (.int .i64 1)).setCell ⟨b6, 2, none⟩ (.int .i64 x.at_)).setCell ⟨b6, 3, none⟩ (.string (bstr x.pre))).setCell ⟨b6, 4, none⟩ (.bool false)).setCell ⟨b6, 5, none⟩ (.int .i64 0)).setCell ⟨b6, 6, none⟩ (.int .i64 0))) := Lib.hid (((((((HBX.out.setCell HL6.out _).setCell HL6.out _).setCell HL6.out _).setCell HL6.out _).setCell HL6.out _).setCell HL6.out _).setCell HL6.out _)
          have HKS0 := Lib.hid (((((((HK6X.out.set_ 0 (.string (bstr x.id))).set_ 1 (.int .i64 1)).set_ 2 (.int .i64 x.at_)).set_ 3 (.string (bstr x.pre))).set_ 4 (.bool false)).set_ 5 (.int .i64 0)).set_ 6 (.int .i64 0))
          have HKS : Hid (Blk (((((((wx.setCell ⟨b6, 0, none⟩ (.string (bstr x.id))).setCell ⟨b6, 1, none⟩ (.int .i64 1)).setCell ⟨b6, 2, none⟩ (.int .i64 x.at_)).setCell ⟨b6, 3, none⟩ (.string (bstr x.pre))).setCell ⟨b6, 4, none⟩ (.bool false)).setCell ⟨b6, 5, none⟩ (.int .i64 0)).setCell ⟨b6, 6, none⟩ (.int .i64 0)) b6 60 (stpCells ⟨x, false, 0, 0⟩)) := Lib.hid (by
            have h := HKS0.out
            rw [stpCells]
            dsimp only
            rw [hk1]
            exact h)
          clear HKS0
          have y0 : wx.cell? ⟨b6, 0, none⟩ = some (.string (bstr s.ask.id)) := HK6X.out.cell 0
          have z0 := HK6X.out.frozen 0
          have y1 : wx.cell? ⟨b6, 1, none⟩ = some (.int .i64 s.ask.kind) := HK6X.out.cell 1
          have z1 := HK6X.out.frozen 1
          have y2 : wx.cell? ⟨b6, 2, none⟩ = some (.int .i64 s.ask.at_) := HK6X.out.cell 2
          have z2 := HK6X.out.frozen 2
          have y3 : wx.cell? ⟨b6, 3, none⟩ = some (.string (bstr s.ask.pre)) := HK6X.out.cell 3
          have z3 := HK6X.out.frozen 3
          have y4 : wx.cell? ⟨b6, 4, none⟩ = some (.bool s.granted) := HK6X.out.cell 4
          have z4 := HK6X.out.frozen 4
          have y5 : wx.cell? ⟨b6, 5, none⟩ = some (.int .i64 s.ended) := HK6X.out.cell 5
          have z5 := HK6X.out.frozen 5
          have y6 : wx.cell? ⟨b6, 6, none⟩ = some (.int .i64 s.end_) := HK6X.out.cell 6
          have z6 := HK6X.out.frozen 6
          rw [hk1] at x1
          clear hk1 he
          go_wp2_with fail
          clear x0 x1 x2 x3 y0 z0 y1 z1 y2 z2 y3 z3 y4 z4 y5 z5 y6 z6
          go_roundw
          case rel => first | exact ⟨k + 1, by omega, by rw [HN.out], by go_num, by rw [HN.out]; exact HKS, HGS, HBS⟩ | (repeat (apply Exists.intro); (refine And.intro ?_ ?_; rotate_left; (repeat' (first | exact rfl | apply And.intro)); exact ⟨k + 1, by omega, by rw [HN.out], by go_num, by rw [HN.out]; exact HKS, HGS, HBS⟩))
          case measure => simp [intOf]; omega
        · by_cases hk2 : x.kind = 2
          · have HN : Hid (stpAt l id (k + 1) = ({ s with granted := true }, fd)) := Lib.hid (by rw [HNX.out, stpOne, if_neg (by simpa using he), if_neg hk1, if_pos hk2])
            have g0 := HK4X.out
            have g1 : Blk (wx.setCell ⟨b6, 4, none⟩ (.bool true)) b4 60 (stpCells stpZero) := g0.same (grown_same (set_grownR _ b6 4 (.bool true))) ⟨g0.lt, fun e => HNE.out (Option.some.inj e)⟩
            have HGS := Lib.hid g1
            clear g0 g1
            have HBS : Hid (Below w.heap.size w (wx.setCell ⟨b6, 4, none⟩ (.bool true))) := Lib.hid (HBX.out.setCell HL6.out _)
            have HKS0 := Lib.hid (HK6X.out.set_ 4 (.bool true))
            have HKS : Hid (Blk (wx.setCell ⟨b6, 4, none⟩ (.bool true)) b6 60 (stpCells { s with granted := true })) := HKS0
            clear HKS0
            have y4 : wx.cell? ⟨b6, 4, none⟩ = some (.bool s.granted) := HK6X.out.cell 4
            have z4 := HK6X.out.frozen 4
            rw [hk2] at x1
            clear hk1 hk2 he
            go_wp2_with fail
            clear x0 x1 x2 x3 y4 z4
            go_roundw
            case rel => first | exact ⟨k + 1, by omega, by rw [HN.out], by go_num, by rw [HN.out]; exact HKS, HGS, HBS⟩ | (repeat (apply Exists.intro); (refine And.intro ?_ ?_; rotate_left; (repeat' (first | exact rfl | apply And.intro)); exact ⟨k + 1, by omega, by rw [HN.out], by go_num, by rw [HN.out]; exact HKS, HGS, HBS⟩))
            case measure => simp [intOf]; omega
          · have HN : Hid (stpAt l id (k + 1) = ({ s with ended := x.kind, end_ := x.at_ }, fd)) := Lib.hid (by rw [HNX.out, stpOne, if_neg (by simpa using he), if_neg hk1, if_neg hk2])
            have hkb1 : (x.kind == (1 : Int)) = false := by simpa using hk1
            have hkb2 : (x.kind == (2 : Int)) = false := by simpa using hk2
            have HX6 : Hid (b6 ≠ xb) := HXN
            clear he
            go_wp2_with fail
            clear x0 x1 x2 x3 hkb1 hkb2 hk1 hk2
            have KEEP : Hid (∀ w', Below wx.heap.size wx w' → (w'.cell? ⟨xb, 1, none⟩ = some (.int .i64 x.kind) ∧ w'.cell? ⟨xb, 2, none⟩ = some (.int .i64 x.at_))) := Lib.hid (fun w' hg => by
              have h := HKXX.out.same (same_below hg) HKXX.out.lt
              exact ⟨h.cell 1, h.cell 2⟩)
            refine wp_region_held_drew (S := fun w' => w'.cell? ⟨xb, 1, none⟩ = some (.int .i64 x.kind) ∧ w'.cell? ⟨xb, 2, none⟩ = some (.int .i64 x.at_)) (by kernel_rfl) (KEEP.out _ (Below.drew (Below.refl _ _))) (fun hHeld => ?_)
            obtain ⟨wd, hwd⟩ : ∃ wd, wd = World.drew wx := ⟨_, rfl⟩
            have HG0 : Hid (Below wx.heap.size wx wd) := Lib.hid (by rw [hwd]; exact Below.drew (Below.refl _ _))
            rw [← hwd] at hHeld ⊢
            clear hwd
            refine wpAnyH_take (i := 0) (v := ?_) rfl (by kernel_rfl) (by kernel_rfl) (by kernel_rfl) (fun _ _ _ h => h) (Or.inl ⟨by rfl, ?_⟩) (by assumption) ?_
            rotate_left
            · (intro w hSw; (try dsimp only at hSw); obtain ⟨hs1, hs2⟩ := hSw; go_simp; try with_reducible rfl)
            try simp only [List.getElem_toArray, List.getElem_cons_succ, List.getElem_cons_zero, Act.put, List.setIfInBounds_toArray, List.set_cons_zero, List.set_cons_succ]
            refine wpAnyH_take (i := 1) (v := ?_) rfl (by kernel_rfl) (by kernel_rfl) (by kernel_rfl) (fun _ _ _ h => h) (Or.inl ⟨by rfl, ?_⟩) (by assumption) ?_
            rotate_left
            · (intro w hSw; (try dsimp only at hSw); obtain ⟨hs1, hs2⟩ := hSw; go_simp; try with_reducible rfl)
            try simp only [List.getElem_toArray, List.getElem_cons_succ, List.getElem_cons_zero, Act.put, List.setIfInBounds_toArray, List.set_cons_zero, List.set_cons_succ]
            refine wpAnyH_take (i := 2) (v := ?_) rfl (by kernel_rfl) (by kernel_rfl) (by kernel_rfl) (fun _ _ _ h => h) (Or.inl ⟨by rfl, ?_⟩) (by assumption) ?_
            rotate_left
            · (intro w hSw; (try dsimp only at hSw); obtain ⟨hs1, hs2⟩ := hSw; go_simp; try with_reducible rfl)
            try simp only [List.getElem_toArray, List.getElem_cons_succ, List.getElem_cons_zero, Act.put, List.setIfInBounds_toArray, List.set_cons_zero, List.set_cons_succ]
            refine wpAnyH_take (i := 3) (v := ?_) rfl (by kernel_rfl) (by kernel_rfl) (by kernel_rfl) (fun _ _ _ h => h) (Or.inl ⟨by rfl, ?_⟩) (by assumption) ?_
            rotate_left
            · (intro w hSw; (try dsimp only at hSw); obtain ⟨hs1, hs2⟩ := hSw; go_simp; try with_reducible rfl)
            try simp only [List.getElem_toArray, List.getElem_cons_succ, List.getElem_cons_zero, Act.put, List.setIfInBounds_toArray, List.set_cons_zero, List.set_cons_succ]
            refine wpAnyH_take (i := 4) (v := ?_) rfl (by kernel_rfl) (by kernel_rfl) (by kernel_rfl) (fun _ _ _ h => h) (Or.inl ⟨by rfl, ?_⟩) (by assumption) ?_
            rotate_left
            · (intro w hSw; (try dsimp only at hSw); obtain ⟨hs1, hs2⟩ := hSw; go_simp; try with_reducible rfl)
            try simp only [List.getElem_toArray, List.getElem_cons_succ, List.getElem_cons_zero, Act.put, List.setIfInBounds_toArray, List.set_cons_zero, List.set_cons_succ]
            have HK6D := Lib.hid (HK6X.out.same (same_below HG0.out) HK6X.out.lt)
            have HK4D := Lib.hid (HK4X.out.same (same_below HG0.out) HK4X.out.lt)
            have HKXD := Lib.hid (HKXX.out.same (same_below HG0.out) HKXX.out.lt)
            have HBD := Lib.hid (HBX.out.trans (HG0.out.mono HBX.out.size))
            clear HK6X HK4X HKXX HBX HG0 KEEP
            have HKS1 := Lib.hid (HK6D.out.set_ 5 (.int .i64 x.kind))
            have HGS1 := Lib.hid (HK4D.out.same (grown_same (set_grownR wd b6 5 (.int .i64 x.kind))) ⟨HK4D.out.lt, fun e => HNE.out (Option.some.inj e)⟩)
            have HXS1 := Lib.hid (HKXD.out.same (grown_same (set_grownR wd b6 5 (.int .i64 x.kind))) ⟨HKXD.out.lt, fun e => HX6.out (Option.some.inj e).symm⟩)
            have HBS1 := Lib.hid (HBD.out.setCell (p := ⟨b6, 5, none⟩) HL6.out (.int .i64 x.kind))
            have k5 : wd.cell? ⟨b6, 5, none⟩ = some (.int .i64 s.ended) := HK6D.out.cell 5
            have y5 := HK6D.out.frozen 5
            refine wpAnyH_ready (rs := [5]) (by kernel_rfl) (by simp) ?_
            refine AllReadyH.cons rfl (fun K hK => ?_) AllReadyH.nil
            rw [if_pos (by rfl)]
            simp only [List.getElem_toArray, List.getElem_cons_succ, List.getElem_cons_zero]
            go_simp
            refine hK.out _ _ ⟨HXS1.out.cell 1, HXS1.out.cell 2⟩ (fun hHeld => ?_)
            clear hK K k5 y5
            try simp only [List.getElem_toArray, List.getElem_cons_succ, List.getElem_cons_zero, Act.put, List.setIfInBounds_toArray, List.set_cons_zero, List.set_cons_succ]
            obtain ⟨ws, hws⟩ : ∃ ws, ws = wd.setCell ⟨b6, 5, none⟩ (.int .i64 x.kind) := ⟨_, rfl⟩
            rw [← hws] at hHeld HKS1 HGS1 HXS1 HBS1 ⊢
            clear hws
            refine wpAnyH_take (i := 6) (v := ?_) rfl (by kernel_rfl) (by kernel_rfl) (by kernel_rfl) (fun _ _ _ h => h) (Or.inl ⟨by rfl, ?_⟩) (by assumption) ?_
            rotate_left
            · (intro w hSw; (try dsimp only at hSw); obtain ⟨hs1, hs2⟩ := hSw; go_simp; try with_reducible rfl)
            try simp only [List.getElem_toArray, List.getElem_cons_succ, List.getElem_cons_zero, Act.put, List.setIfInBounds_toArray, List.set_cons_zero, List.set_cons_succ]
            have HKS2 := Lib.hid (HKS1.out.set_ 6 (.int .i64 x.at_))
            have HGS2 := Lib.hid (HGS1.out.same (grown_same (set_grownR ws b6 6 (.int .i64 x.at_))) ⟨HGS1.out.lt, fun e => HNE.out (Option.some.inj e)⟩)
            have HXS2 := Lib.hid (HXS1.out.same (grown_same (set_grownR ws b6 6 (.int .i64 x.at_))) ⟨HXS1.out.lt, fun e => HX6.out (Option.some.inj e).symm⟩)
            have HBS2 := Lib.hid (HBS1.out.setCell (p := ⟨b6, 6, none⟩) HL6.out (.int .i64 x.at_))
            have k6 : ws.cell? ⟨b6, 6, none⟩ = some (.int .i64 s.end_) := HKS1.out.cell 6
            have y6 := HKS1.out.frozen 6
            refine wpAnyH_ready (rs := [7]) (by kernel_rfl) (by simp) ?_
            refine AllReadyH.cons rfl (fun K hK => ?_) AllReadyH.nil
            rw [if_pos (by rfl)]
            simp only [List.getElem_toArray, List.getElem_cons_succ, List.getElem_cons_zero]
            go_simp
            refine hK.out _ _ ⟨HXS2.out.cell 1, HXS2.out.cell 2⟩ (fun hHeld => ?_)
            clear hK K k6 y6
            try simp only [List.getElem_toArray, List.getElem_cons_succ, List.getElem_cons_zero, Act.put, List.setIfInBounds_toArray, List.set_cons_zero, List.set_cons_succ]
            refine wpAnyH_done (by kernel_rfl) ?_ _
            clear hHeld
            have HKS : Hid (Blk (ws.setCell ⟨b6, 6, none⟩ (.int .i64 x.at_)) b6 60 (stpCells { s with ended := x.kind, end_ := x.at_ })) := HKS2
            have HGS := HGS2
            have HBS := HBS2
            clear HKS2 HGS2 HBS2 HXS2 HKS1 HGS1 HBS1 HXS1 HK6D HK4D HKXD HBD
            generalize (ws.setCell ⟨b6, 6, none⟩ (.int .i64 x.at_)) = wz at *
            go_wp2_with fail
            go_roundw
            case rel => first | exact ⟨k + 1, by omega, by rw [HN.out], by go_num, by rw [HN.out]; exact HKS, HGS, HBS⟩ | (repeat (apply Exists.intro); (refine And.intro ?_ ?_; rotate_left; (repeat' (first | exact rfl | apply And.intro)); exact ⟨k + 1, by omega, by rw [HN.out], by go_num, by rw [HN.out]; exact HKS, HGS, HBS⟩))
            case measure => simp [intOf]; omega
      · have hbq : ((bstr x.id).toList == (bstr id).toList) = false := str_bne (fun e => he (bstr_inj e))
        have HN : Hid (stpAt l id (k + 1) = (s, fd)) := Lib.hid (by rw [HNX.out, stpOne, if_pos he])
        clear he
        go_wp2_with fail
        clear hbq x0 x1 x2 x3
        go_roundw
        case rel => first | exact ⟨k + 1, by omega, by rw [HN.out], by go_num, by rw [HN.out]; exact HK6X, HK4X, HBX⟩ | (repeat (apply Exists.intro); (refine And.intro ?_ ?_; rotate_left; (repeat' (first | exact rfl | apply And.intro)); exact ⟨k + 1, by omega, by rw [HN.out], by go_num, by rw [HN.out]; exact HK6X, HK4X, HBX⟩))
        case measure => simp [intOf]; omega
    · have hke : k = l.length := by omega
      subst hke
      have HS : Hid (stpAt l id l.length = stpAt l id l.length) := Lib.hid rfl
      generalize hs : (stpAt l id l.length).1 = s at *
      generalize hf : (stpAt l id l.length).2 = fd at *
      have HSE := Lib.hid hs
      have HFE := Lib.hid hf
      clear hs hf HS
      have s0 : wr.cell? ⟨b6, 0, none⟩ = some (.string (bstr s.ask.id)) := HK6.out.cell 0
      have s1 : wr.cell? ⟨b6, 1, none⟩ = some (.int .i64 s.ask.kind) := HK6.out.cell 1
      have s2 : wr.cell? ⟨b6, 2, none⟩ = some (.int .i64 s.ask.at_) := HK6.out.cell 2
      have s3 : wr.cell? ⟨b6, 3, none⟩ = some (.string (bstr s.ask.pre)) := HK6.out.cell 3
      have s4 : wr.cell? ⟨b6, 4, none⟩ = some (.bool s.granted) := HK6.out.cell 4
      have s5 : wr.cell? ⟨b6, 5, none⟩ = some (.int .i64 s.ended) := HK6.out.cell 5
      have s6 : wr.cell? ⟨b6, 6, none⟩ = some (.int .i64 s.end_) := HK6.out.cell 6
      have y0 : wr.cell? ⟨b4, 0, none⟩ = some (.string { data := #[] }) := HK4.out.cell 0
      have y1 : wr.cell? ⟨b4, 1, none⟩ = some (.int .i64 0) := HK4.out.cell 1
      have y2 : wr.cell? ⟨b4, 2, none⟩ = some (.int .i64 0) := HK4.out.cell 2
      have y3 : wr.cell? ⟨b4, 3, none⟩ = some (.string { data := #[] }) := HK4.out.cell 3
      have y4 : wr.cell? ⟨b4, 4, none⟩ = some (.bool false) := HK4.out.cell 4
      have y5 : wr.cell? ⟨b4, 5, none⟩ = some (.int .i64 0) := HK4.out.cell 5
      have y6 : wr.cell? ⟨b4, 6, none⟩ = some (.int .i64 0) := HK4.out.cell 6
      have z0 := HK4.out.frozen 0
      have z1 := HK4.out.frozen 1
      have z2 := HK4.out.frozen 2
      have z3 := HK4.out.frozen 3
      have z4 := HK4.out.frozen 4
      have z5 := HK4.out.frozen 5
      have z6 := HK4.out.frozen 6
      go_wp2_with fail
      have HKS : Hid (Blk (((((((wr.setCell ⟨b4, 0, none⟩ (.string (bstr s.ask.id))).setCell ⟨b4, 1, none⟩ (.int .i64 s.ask.kind)).setCell ⟨b4, 2, none⟩ (.int .i64 s.ask.at_)).setCell ⟨b4, 3, none⟩ (.string (bstr s.ask.pre))).setCell ⟨b4, 4, none⟩ (.bool s.granted)).setCell ⟨b4, 5, none⟩ (.int .i64 s.ended)).setCell ⟨b4, 6, none⟩ (.int .i64 s.end_)) b4 60 (stpCells s)) := Lib.hid (((((((HK4.out.set_ 0 (.string (bstr s.ask.id))).set_ 1 (.int .i64 s.ask.kind)).set_ 2 (.int .i64 s.ask.at_)).set_ 3 (.string (bstr s.ask.pre))).set_ 4 (.bool s.granted)).set_ 5 (.int .i64 s.ended)).set_ 6 (.int .i64 s.end_))
      have HBS : Hid (Below w.heap.size w (((((((wr.setCell ⟨b4, 0, none⟩ (.string (bstr s.ask.id))).setCell ⟨b4, 1, none⟩ (.int .i64 s.ask.kind)).setCell ⟨b4, 2, none⟩ (.int .i64 s.ask.at_)).setCell ⟨b4, 3, none⟩ (.string (bstr s.ask.pre))).setCell ⟨b4, 4, none⟩ (.bool s.granted)).setCell ⟨b4, 5, none⟩ (.int .i64 s.ended)).setCell ⟨b4, 6, none⟩ (.int .i64 s.end_))) := Lib.hid (((((((HB.out.setCell HL.out _).setCell HL.out _).setCell HL.out _).setCell HL.out _).setCell HL.out _).setCell HL.out _).setCell HL.out _)
      have u0 : (((((((wr.setCell ⟨b4, 0, none⟩ (.string (bstr s.ask.id))).setCell ⟨b4, 1, none⟩ (.int .i64 s.ask.kind)).setCell ⟨b4, 2, none⟩ (.int .i64 s.ask.at_)).setCell ⟨b4, 3, none⟩ (.string (bstr s.ask.pre))).setCell ⟨b4, 4, none⟩ (.bool s.granted)).setCell ⟨b4, 5, none⟩ (.int .i64 s.ended)).setCell ⟨b4, 6, none⟩ (.int .i64 s.end_)).cell? ⟨b4, 0, none⟩ = some (.string (bstr s.ask.id)) := HKS.out.cell 0
      have u1 : (((((((wr.setCell ⟨b4, 0, none⟩ (.string (bstr s.ask.id))).setCell ⟨b4, 1, none⟩ (.int .i64 s.ask.kind)).setCell ⟨b4, 2, none⟩ (.int .i64 s.ask.at_)).setCell ⟨b4, 3, none⟩ (.string (bstr s.ask.pre))).setCell ⟨b4, 4, none⟩ (.bool s.granted)).setCell ⟨b4, 5, none⟩ (.int .i64 s.ended)).setCell ⟨b4, 6, none⟩ (.int .i64 s.end_)).cell? ⟨b4, 1, none⟩ = some (.int .i64 s.ask.kind) := HKS.out.cell 1
      have u2 : (((((((wr.setCell ⟨b4, 0, none⟩ (.string (bstr s.ask.id))).setCell ⟨b4, 1, none⟩ (.int .i64 s.ask.kind)).setCell ⟨b4, 2, none⟩ (.int .i64 s.ask.at_)).setCell ⟨b4, 3, none⟩ (.string (bstr s.ask.pre))).setCell ⟨b4, 4, none⟩ (.bool s.granted)).setCell ⟨b4, 5, none⟩ (.int .i64 s.ended)).setCell ⟨b4, 6, none⟩ (.int .i64 s.end_)).cell? ⟨b4, 2, none⟩ = some (.int .i64 s.ask.at_) := HKS.out.cell 2
      have u3 : (((((((wr.setCell ⟨b4, 0, none⟩ (.string (bstr s.ask.id))).setCell ⟨b4, 1, none⟩ (.int .i64 s.ask.kind)).setCell ⟨b4, 2, none⟩ (.int .i64 s.ask.at_)).setCell ⟨b4, 3, none⟩ (.string (bstr s.ask.pre))).setCell ⟨b4, 4, none⟩ (.bool s.granted)).setCell ⟨b4, 5, none⟩ (.int .i64 s.ended)).setCell ⟨b4, 6, none⟩ (.int .i64 s.end_)).cell? ⟨b4, 3, none⟩ = some (.string (bstr s.ask.pre)) := HKS.out.cell 3
      have u4 : (((((((wr.setCell ⟨b4, 0, none⟩ (.string (bstr s.ask.id))).setCell ⟨b4, 1, none⟩ (.int .i64 s.ask.kind)).setCell ⟨b4, 2, none⟩ (.int .i64 s.ask.at_)).setCell ⟨b4, 3, none⟩ (.string (bstr s.ask.pre))).setCell ⟨b4, 4, none⟩ (.bool s.granted)).setCell ⟨b4, 5, none⟩ (.int .i64 s.ended)).setCell ⟨b4, 6, none⟩ (.int .i64 s.end_)).cell? ⟨b4, 4, none⟩ = some (.bool s.granted) := HKS.out.cell 4
      have u5 : (((((((wr.setCell ⟨b4, 0, none⟩ (.string (bstr s.ask.id))).setCell ⟨b4, 1, none⟩ (.int .i64 s.ask.kind)).setCell ⟨b4, 2, none⟩ (.int .i64 s.ask.at_)).setCell ⟨b4, 3, none⟩ (.string (bstr s.ask.pre))).setCell ⟨b4, 4, none⟩ (.bool s.granted)).setCell ⟨b4, 5, none⟩ (.int .i64 s.ended)).setCell ⟨b4, 6, none⟩ (.int .i64 s.end_)).cell? ⟨b4, 5, none⟩ = some (.int .i64 s.ended) := HKS.out.cell 5
      have u6 : (((((((wr.setCell ⟨b4, 0, none⟩ (.string (bstr s.ask.id))).setCell ⟨b4, 1, none⟩ (.int .i64 s.ask.kind)).setCell ⟨b4, 2, none⟩ (.int .i64 s.ask.at_)).setCell ⟨b4, 3, none⟩ (.string (bstr s.ask.pre))).setCell ⟨b4, 4, none⟩ (.bool s.granted)).setCell ⟨b4, 5, none⟩ (.int .i64 s.ended)).setCell ⟨b4, 6, none⟩ (.int .i64 s.end_)).cell? ⟨b4, 6, none⟩ = some (.int .i64 s.end_) := HKS.out.cell 6
      exact bodyPost_ret (v := .tuple #[.agg #[.string (bstr s.ask.id), .int .i64 s.ask.kind, .int .i64 s.ask.at_, .string (bstr s.ask.pre), .bool s.granted, .int .i64 s.ended, .int .i64 s.end_], .bool fd]) (by simp [results, Tryd.results26, go_sem, u0, u1, u2, u3, u4, u5, u6]) rfl ⟨by rw [HSE.out, HFE.out]; rfl, HBS.out⟩
end Go.Proofs.YtgbpnghgcffkbaaDoor
