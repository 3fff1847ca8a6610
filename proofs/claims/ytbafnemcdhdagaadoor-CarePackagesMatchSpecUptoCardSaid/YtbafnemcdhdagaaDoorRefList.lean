/-
  'listed' and 'PackageOf' of the reference.
-/
import Derived.Test.YtbafnemcdhdagaaDoorProg
import Derived.Test.YtbafnemcdhdagaaDoorPkgOf
import Derived.Test.YtbafnemcdhdagaaDoorRefPack
import Derived.Test.YtbafnemcdhdagaaDoorCopies
import Derived.Deep.RegionHeld3
import Derived.Laws.ResultCell
import Derived.Laws.Rows
namespace Go.Proofs.YtbafnemcdhdagaaDoor
open Go.RowKit
set_option linter.unusedVariables false
set_option linter.unusedSimpArgs false

theorem listed_info : (Tryd.prog.info? 119).map (·.size) = some 3 := by kernel_rfl
set_option maxRecDepth 100000 in
set_option maxHeartbeats 1000000 in
theorem refListed_any (x : FileR) (v : Value) (w : World) (h : (Rp.sl Rp.u8).ok w (· < w.heap.size) [v] x.bytes) :
    Calls Tryd.prog 69 #[.agg #[.string (bstr x.path), v]] w fun e w' => e = .returned (.agg (entCells (listedOf x)).toArray) ∧ Below w.heap.size w w' := by
  obtain ⟨A1, cb, rfl, hcb, hcbm, _⟩ := Rp.sl_open h
  unfold maxLen at hcbm
  have ha1 := (Below.refl w.heap.size w).alloc (Nat.le_refl _) (.cells #[.string (bstr x.path), .slice A1 x.bytes.length cb] 116)
  have ha2 := ha1.alloc ha1.size (.cells #[.string ⟨#[]⟩, .int .i64 0, .string ⟨#[]⟩] 119)
  have HA2 := Lib.hid ha2
  have HV := Lib.hid (Rp.ext _ h ha2)
  have HKX := Lib.hid ((Blk.new w 116 [.string (bstr x.path), .slice A1 x.bytes.length cb]).alloc_o (.cells #[.string ⟨#[]⟩, .int .i64 0, .string ⟨#[]⟩] 119))
  have hkr := Blk.new (w.alloc (.cells #[.string (bstr x.path), .slice A1 x.bytes.length cb] 116)) 119 [.string ⟨#[]⟩, .int .i64 0, .string ⟨#[]⟩]
  rw [World.size_alloc] at hkr
  have HKR := Lib.hid hkr
  clear h ha1 ha2 hkr
  go_enter Tryd.func69, Tryd.ntmps69
  go_wp2_with fail
  obtain ⟨w2, hw2⟩ : ∃ w2, w2 = (w.alloc (.cells #[.string (bstr x.path), .slice A1 x.bytes.length cb] 116)).alloc (.cells #[.string ⟨#[]⟩, .int .i64 0, .string ⟨#[]⟩] 119) := ⟨_, rfl⟩
  change Hid (Blk ((w.alloc (.cells #[.string (bstr x.path), .slice A1 x.bytes.length cb] 116)).alloc (.cells #[.string ⟨#[]⟩, .int .i64 0, .string ⟨#[]⟩] 119)) (w.heap.size + 1) _ _) at HKR
  rw [← hw2] at HA2 HV HKX HKR ⊢
  clear hw2
  have d0 : w2.cell? ⟨w.heap.size, 0, none⟩ = some (.string (bstr x.path)) := HKX.out.cell 0
  have d1 : w2.cell? ⟨w.heap.size, 1, none⟩ = some (.slice A1 x.bytes.length cb) := HKX.out.cell 1
  refine wp_region_held_drew (S := fun w' => w'.cell? ⟨w.heap.size, 0, none⟩ = some (.string (bstr x.path)) ∧ w'.cell? ⟨w.heap.size, 1, none⟩ = some (.slice A1 x.bytes.length cb)) (by kernel_rfl) ⟨d0, d1⟩ (fun hHeld => ?_)
  obtain ⟨wd, hwd⟩ : ∃ wd, wd = w2.drew := ⟨_, rfl⟩
  have HBD : Hid (Below w2.heap.size w2 wd) := Lib.hid (by rw [hwd]; exact (Below.refl w2.heap.size w2).drew)
  rw [← hwd] at hHeld ⊢
  clear hwd d0 d1
  have HVD := Lib.hid (Rp.ext _ HV.out HBD.out)
  refine wpAnyH_take (i := 0) (v := ?_) rfl (by kernel_rfl) (by kernel_rfl) (by kernel_rfl) (fun _ _ _ h => h) (Or.inl ⟨by rfl, ?_⟩) (by assumption) ?_
  rotate_left
  · (intro w hSw; (try dsimp only at hSw); go_simp; try with_reducible rfl)
  try simp only [List.getElem_toArray, List.getElem_cons_succ, List.getElem_cons_zero, Act.put, List.setIfInBounds_toArray, List.set_cons_zero, List.set_cons_succ]
  refine wpAnyH_take (i := 1) (v := ?_) rfl (by kernel_rfl) (by kernel_rfl) (by kernel_rfl) (fun _ _ _ h => h) (Or.inl ⟨by rfl, ?_⟩) (by assumption) ?_
  rotate_left
  · (intro w hSw; (try dsimp only at hSw); go_simp; try with_reducible rfl)
  try simp only [List.getElem_toArray, List.getElem_cons_succ, List.getElem_cons_zero, Act.put, List.setIfInBounds_toArray, List.set_cons_zero, List.set_cons_succ]
  refine wpAnyH_take (i := 2) (v := ?_) rfl (by kernel_rfl) (by kernel_rfl) (by kernel_rfl) (fun _ _ _ h => h) (Or.inl ⟨by rfl, ?_⟩) (by assumption) ?_
  rotate_left
  · (intro w hSw; (try dsimp only at hSw); go_simp; try with_reducible rfl)
  try simp only [List.getElem_toArray, List.getElem_cons_succ, List.getElem_cons_zero, Act.put, List.setIfInBounds_toArray, List.set_cons_zero, List.set_cons_succ]
  refine wpAnyH_take (i := 3) (v := ?_) rfl (by kernel_rfl) (by kernel_rfl) (by kernel_rfl) (fun _ _ _ h => h) (Or.inl ⟨by rfl, ?_⟩) (by assumption) ?_
  rotate_left
  · (intro w hSw; (try dsimp only at hSw); go_simp; try with_reducible rfl)
  try simp only [List.getElem_toArray, List.getElem_cons_succ, List.getElem_cons_zero, Act.put, List.setIfInBounds_toArray, List.set_cons_zero, List.set_cons_succ]
  refine wpAnyH_take (i := 4) (v := ?_) rfl (by kernel_rfl) (by kernel_rfl) (by kernel_rfl) (fun _ _ _ h => h) (Or.inl ⟨by rfl, ?_⟩) (by assumption) ?_
  rotate_left
  · (intro w hSw; (try dsimp only at hSw); go_simp; try with_reducible rfl)
  try simp only [List.getElem_toArray, List.getElem_cons_succ, List.getElem_cons_zero, Act.put, List.setIfInBounds_toArray, List.set_cons_zero, List.set_cons_succ]
  refine wpAnyH_take (i := 5) (v := ?_) rfl (by kernel_rfl) (by kernel_rfl) (by kernel_rfl) (fun _ _ _ h => h) (Or.inl ⟨by rfl, ?_⟩) (by assumption) ?_
  rotate_left
  · (intro w hSw; (try dsimp only at hSw); go_simp; try with_reducible rfl)
  try simp only [List.getElem_toArray, List.getElem_cons_succ, List.getElem_cons_zero, Act.put, List.setIfInBounds_toArray, List.set_cons_zero, List.set_cons_succ]
  refine wpAnyH_take (i := 6) (v := ?_) rfl (by kernel_rfl) (by kernel_rfl) (by kernel_rfl) (fun _ _ _ h => h) (Or.inl ⟨by rfl, ?_⟩) (by assumption) ?_
  rotate_left
  · (intro w hSw; (try dsimp only at hSw); go_simp; try with_reducible rfl)
  try simp only [List.getElem_toArray, List.getElem_cons_succ, List.getElem_cons_zero, Act.put, List.setIfInBounds_toArray, List.set_cons_zero, List.set_cons_succ]
  refine wpAnyH_ready (rs := [7]) (by kernel_rfl) (by simp) ?_
  refine AllReadyH.cons rfl (fun K hK => ?_) AllReadyH.nil
  rw [if_pos (by rfl)]
  simp only [List.getElem_toArray, List.getElem_cons_succ, List.getElem_cons_zero]
  go_simp
  go_at_call 105
  refine (refDigest_any _ _ _ _ HVD.out).mono ?_
  rintro e w4 ⟨rfl, hb4⟩
  have HB4 := Lib.hid (HBD.out.trans (hb4.mono HBD.out.size))
  have hk4 := HKX.out.grown_ (below_grown HB4.out) (by simp)
  have hr4 := HKR.out.grown_ (below_grown HB4.out) (by simp)
  have q0 : w4.cell? ⟨w.heap.size + 1, 0, none⟩ = some (.string ⟨#[]⟩) := hr4.cell 0
  have q1 : w4.cell? ⟨w.heap.size + 1, 1, none⟩ = some (.int .i64 0) := hr4.cell 1
  have q2 : w4.cell? ⟨w.heap.size + 1, 2, none⟩ = some (.string ⟨#[]⟩) := hr4.cell 2
  have z0 : w4.frozen? ⟨w.heap.size + 1, 0, none⟩ = false := hr4.frozen 0
  have z1 : w4.frozen? ⟨w.heap.size + 1, 1, none⟩ = false := hr4.frozen 1
  have z2 : w4.frozen? ⟨w.heap.size + 1, 2, none⟩ = false := hr4.frozen 2
  have HK4 := Lib.hid hk4
  have HR4 := Lib.hid hr4
  clear hb4
  show K _ w4
  refine hK.out _ _ ⟨hk4.cell 0, hk4.cell 1⟩ (fun hHeld => ?_)
  clear hK K
  try simp only [List.getElem_toArray, List.getElem_cons_succ, List.getElem_cons_zero, Act.put, List.setIfInBounds_toArray, List.set_cons_zero, List.set_cons_succ]
  clear hk4 hr4
  refine wpAnyH_take (i := 8) (v := ?_) rfl (by kernel_rfl) (by kernel_rfl) (by kernel_rfl) (fun _ _ _ h => h) (Or.inl ⟨by rfl, ?_⟩) (by assumption) ?_
  rotate_left
  · (intro w hSw; (try dsimp only at hSw); go_simp; try with_reducible rfl)
  try simp only [List.getElem_toArray, List.getElem_cons_succ, List.getElem_cons_zero, Act.put, List.setIfInBounds_toArray, List.set_cons_zero, List.set_cons_succ]
  refine wpAnyH_ready (rs := [9]) (by kernel_rfl) (by simp) ?_
  refine AllReadyH.cons rfl (fun K hK => ?_) AllReadyH.nil
  clear hHeld
  rw [if_pos (by rfl)]
  simp only [List.getElem_toArray, List.getElem_cons_succ, List.getElem_cons_zero]
  go_simp
  have HX9 := Lib.hid (((HK4.out.set_o (g' := w.heap.size + 1) (i := 0) (by omega) (.string (bstr x.path))).set_o (g' := w.heap.size + 1) (i := 1) (by omega) (.int .i64 x.bytes.length)).set_o (g' := w.heap.size + 1) (i := 2) (by omega) (.string (bstr (hexL (fnv x.bytes) 16))))
  have HR9 := Lib.hid (((HR4.out.set_ 0 (.string (bstr x.path))).set_ 1 (.int .i64 x.bytes.length)).set_ 2 (.string (bstr (hexL (fnv x.bytes) 16))))
  have HB9 := Lib.hid ((((HA2.out.trans (HB4.out.mono HA2.out.size)).setCell (p := ⟨w.heap.size + 1, 0, none⟩) (Nat.le_succ _) (.string (bstr x.path))).setCell (p := ⟨w.heap.size + 1, 1, none⟩) (Nat.le_succ _) (.int .i64 x.bytes.length)).setCell (p := ⟨w.heap.size + 1, 2, none⟩) (Nat.le_succ _) (.string (bstr (hexL (fnv x.bytes) 16))))
  refine hK.out _ _ ⟨HX9.out.cell 0, HX9.out.cell 1⟩ (fun hHeld => ?_)
  clear hK K
  try simp only [List.getElem_toArray, List.getElem_cons_succ, List.getElem_cons_zero, Act.put, List.setIfInBounds_toArray, List.set_cons_zero, List.set_cons_succ]
  refine wpAnyH_done (by kernel_rfl) ?_ _
  clear hHeld q0 q1 q2 z0 z1 z2
  go_wp2_with fail
  refine bodyPost_ret (results_cell_row rfl _ _ (w.heap.size + 1) 119 (entCells (listedOf x)).toArray (0, 0) _ rfl HR9.out Tryd.underlying119 rfl listed_info) rfl ?_
  exact ⟨rfl, HB9.out⟩
theorem refListed2_any (x : FileR) (v : Value) (w : World) (h : (Rp.sl Rp.u8).ok w (· < w.heap.size) [v] x.bytes) :
    Calls Tryd.prog 69 #[.agg #[.string (bstr x.path), v]] w fun e w' => e = .returned (.agg #[.string (bstr x.path), .int .i64 x.bytes.length, .string (bstr (hexL (fnv x.bytes) 16))]) ∧ Below w.heap.size w w' :=
  refListed_any x v w h
set_option maxRecDepth 100000 in
set_option maxHeartbeats 4000000 in
theorem refPackageOf_any (n : List UInt8) (v : Value) (l : List FileR) (w : World) (h : (Rp.sl fileRp).ok w (· < w.heap.size) [v] l) (hG : GInt w) (hpl : ∀ f ∈ l, f.path.length ≤ 10000000) (hn : n.length ≤ 9223372036854775807) :
    Calls Tryd.prog 22 #[.string (bstr n), v] w (PkgPost n l w) := by
  obtain ⟨A, c, rfl, hl, hc, _⟩ := Rp.sl_open h
  unfold maxLen at hc
  have hab := (Below.refl w.heap.size w).alloc (Nat.le_refl _) (.cells #[.string ⟨#[]⟩, .slice none 0 0] 55)
  have hkb := Blk.new w 55 [.string ⟨#[]⟩, .slice none 0 0]
  have H := Lib.hid (Rp.ext _ h hab)
  have HG := Lib.hid (hG.ext hab)
  have HAB := Lib.hid hab
  have HKB := Lib.hid hkb
  have hlt0 : w.heap.size < (w.alloc (.cells #[.string ⟨#[]⟩, .slice none 0 0] 55)).heap.size := by simp
  have HPL := Lib.hid hpl
  clear h hG hab hkb hpl
  go_enter Tryd.func22, Tryd.ntmps22
  go_wp2_with fail
  refine (refIsNameB_any n _ hn).mono ?_
  rintro e w1 ⟨rfl, hb1⟩
  have HB1 := Lib.hid (ext_trans HAB.out hb1)
  have H1 := Lib.hid (Rp.ext _ H.out hb1)
  have HG1 := Lib.hid (HG.out.ext hb1)
  have hk1 := HKB.out.same (same_below hb1) hlt0
  have hlw1 : w.heap.size < w1.heap.size := by have := hb1.size; omega
  have HK1 := Lib.hid hk1
  clear H HG HAB HKB hlt0 hb1
  have k0 : w1.cell? ⟨w.heap.size, 0, none⟩ = some (.string ⟨#[]⟩) := hk1.cell 0
  have k1 : w1.cell? ⟨w.heap.size, 1, none⟩ = some (.slice none 0 0) := hk1.cell 1
  have z0 : w1.frozen? ⟨w.heap.size, 0, none⟩ = false := hk1.frozen 0
  have z1 : w1.frozen? ⟨w.heap.size, 1, none⟩ = false := hk1.frozen 1
  clear hk1
  cases hnm : isNm n with
  | false =>
    have hbk := (HK1.out.set_ 0 (.string ⟨#[]⟩)).set_ 1 (.slice none 0 0)
    have HBK := Lib.hid hbk
    clear hbk
    have HP := Lib.hid (PkgPost.bad (n := n) (l := l) (w := w) (f := 5) (by rw [pkFault, if_pos hnm]) (by decide) ((HB1.out.setCell (p := ⟨w.heap.size, 0, none⟩) (Nat.le_refl _) (.string ⟨#[]⟩)).setCell (p := ⟨w.heap.size, 1, none⟩) (Nat.le_refl _) (.slice none 0 0)))
    go_wp2_with fail
    refine bodyPost_ret (results_row2 rfl _ _ w.heap.size 55 [.string ⟨#[]⟩, .slice none 0 0] _ rfl HBK.out Tryd.underlying55 rfl pack_info) rfl ?_
    exact HP.out
  | true =>
  have HPF : Hid (pkFault n l = filesFault l) := Lib.hid (by rw [pkFault, if_neg (by rw [hnm]; decide)])
  clear hnm
  go_wp2_with fail
  refine (refCheckFiles_any _ l w1 H1.out HG1.out HPL.out).mono ?_
  rintro e w2 ⟨rfl, hb2⟩
  have HB2 := Lib.hid (ext_trans HB1.out hb2)
  have H2 := Lib.hid (Rp.ext _ H1.out hb2)
  have hk2 := HK1.out.same (same_below hb2) hlw1
  have hlw2 : w.heap.size < w2.heap.size := by have := hb2.size; omega
  have HK2 := Lib.hid hk2
  have m0 : w2.cell? ⟨w.heap.size, 0, none⟩ = some (.string ⟨#[]⟩) := hk2.cell 0
  have m1 : w2.cell? ⟨w.heap.size, 1, none⟩ = some (.slice none 0 0) := hk2.cell 1
  have y0 : w2.frozen? ⟨w.heap.size, 0, none⟩ = false := hk2.frozen 0
  have y1 : w2.frozen? ⟨w.heap.size, 1, none⟩ = false := hk2.frozen 1
  clear hk2 hb2 k0 k1 z0 z1 H1 HG1 HK1 HB1
  by_cases hf : filesFault l = 0
  case neg =>
    have hbk := (HK2.out.set_ 0 (.string ⟨#[]⟩)).set_ 1 (.slice none 0 0)
    have HBK := Lib.hid hbk
    clear hbk
    have HP := Lib.hid (PkgPost.bad (n := n) (l := l) (w := w) (f := filesFault l) HPF.out hf ((HB2.out.setCell (p := ⟨w.heap.size, 0, none⟩) (Nat.le_refl _) (.string ⟨#[]⟩)).setCell (p := ⟨w.heap.size, 1, none⟩) (Nat.le_refl _) (.slice none 0 0)))
    generalize filesFault l = f at *
    go_wp2_with fail
    refine bodyPost_ret (results_row2 rfl _ _ w.heap.size 55 [.string ⟨#[]⟩, .slice none 0 0] _ rfl HBK.out Tryd.underlying55 rfl pack_info) rfl ?_
    exact HP.out
  rw [hf]
  have HF := Lib.hid hf
  have HOK := Lib.hid (files_ok hf)
  have hl5 := (files_ok hf).1
  have hkp := Blk.new w2 55 [.string (bstr n), .slice none 0 0]
  have hbp := (Below.refl w2.heap.size w2).alloc (Nat.le_refl _) (.cells #[.string (bstr n), .slice none 0 0] 55)
  have HKP := Lib.hid hkp
  have HBP := Lib.hid hbp
  clear hkp hbp hf m0 m1 y0 y1
  go_wp2_with fail
  go_loopw [24] (fun vi wr => ∃ (k : Nat) (vE : Value), k ≤ l.length ∧ vi = .int .i64 k ∧ Hid (Blk wr w2.heap.size 55 [.string (bstr n), vE]) ∧ Hid (wr.ownsRow w2.heap.size 119 3 vE k (((l.take k).map listedOf).flatMap entCells)) ∧ Hid (Below w2.heap.size w2 wr)) (fun vi _ => l.length - (intOf vi).toNat)
  case atStart => exact ⟨0, _, by omega, rfl, HKP, World.ownsRow_nil _ _ _ _, HBP⟩
  case round =>
    clear HKP HBP
    obtain ⟨k, vE, hk, rfl, HK, HO, HB⟩ := hrel
    have hwsz := HB.out.size
    obtain ⟨AE, cE, rfl, _⟩ := own_form HO.out
    by_cases hlt : k < l.length
    · obtain ⟨ad, c', v1, e1, hadb, c0, c1, hz1, hv1⟩ := file_at (Rp.below _ H2.out HB.out) hlt
      cases e1
      obtain ⟨A1, cb, rfl, hcb, hcbm, _⟩ := Rp.sl_open hv1
      unfold maxLen at hcbm
      have HV1 := Lib.hid hv1
      have HST : Hid ((((l.take (k + 1)).map listedOf).flatMap entCells) = ((l.take k).map listedOf).flatMap entCells ++ entCells (listedOf l[k])) := Lib.hid (by rw [List.take_succ_eq_append_getElem hlt, List.map_append, List.flatMap_append]; simp)
      clear hadb hv1
      generalize l[k] = x at *
      have HD := Lib.hid (PkSt.start HK.out HO.out HB.out (.string (bstr x.path)) (.slice A1 x.bytes.length cb))
      have hm2 : 4294967296 ≤ maxLen := by unfold maxLen; omega
      go_wp2_with fail
      refine wp_region_held_drew (S := fun w' => w'.cell? ⟨wr.heap.size, 0, none⟩ = some (.string (bstr x.path)) ∧ w'.cell? ⟨wr.heap.size, 1, none⟩ = some (.slice A1 x.bytes.length cb)) (by kernel_rfl) HD.out.drew.cellsF (fun hHeld => ?_)
      have HDD := Lib.hid HD.out.drew
      clear HD
      generalize World.drew _ = wd at *
      have i1 := HDD.out.cellP
      have HVD := Lib.hid (Rp.sub _ (HDD.out.bytes HB.out HV1.out) (fun k hk => Nat.lt_of_lt_of_le hk HDD.out.le))
      refine wpAnyH_take (i := 0) (v := ?_) rfl (by kernel_rfl) (by kernel_rfl) (by kernel_rfl) (fun _ _ _ h => h) (Or.inl ⟨by rfl, ?_⟩) (by assumption) ?_
      rotate_left
      · (intro w hSw; (try dsimp only at hSw); go_simp; try with_reducible rfl)
      try simp only [List.getElem_toArray, List.getElem_cons_succ, List.getElem_cons_zero, Act.put, List.setIfInBounds_toArray, List.set_cons_zero, List.set_cons_succ]
      refine wpAnyH_take (i := 2) (v := ?_) rfl (by kernel_rfl) (by kernel_rfl) (by kernel_rfl) (fun _ _ _ h => h) (Or.inl ⟨by rfl, ?_⟩) (by assumption) ?_
      rotate_left
      · (intro w hSw; (try dsimp only at hSw); go_simp; try with_reducible rfl)
      try simp only [List.getElem_toArray, List.getElem_cons_succ, List.getElem_cons_zero, Act.put, List.setIfInBounds_toArray, List.set_cons_zero, List.set_cons_succ]
      refine wpAnyH_ready (rs := [1, 3]) (by kernel_rfl) (by simp) ?_
      refine AllReadyH.cons rfl (fun K hK => ?_) (AllReadyH.cons rfl (fun K hK => ?_) AllReadyH.nil)
      · rw [if_pos (by rfl)]
        simp only [List.getElem_toArray, List.getElem_cons_succ, List.getElem_cons_zero]
        go_simp
        refine hK.out _ _ hHeld (fun hHeld => ?_)
        clear hK K
        try simp only [List.getElem_toArray, List.getElem_cons_succ, List.getElem_cons_zero, Act.put, List.setIfInBounds_toArray, List.set_cons_zero, List.set_cons_succ]
        refine wpAnyH_ready (rs := [3]) (by kernel_rfl) (by simp) ?_
        refine AllReadyH.cons rfl (fun K hK => ?_) AllReadyH.nil
        rw [if_pos (by rfl)]
        simp only [List.getElem_toArray, List.getElem_cons_succ, List.getElem_cons_zero]
        go_simp
        go_at_call 69
        refine (refListed2_any x _ _ HVD.out).mono ?_
        rintro e w4 ⟨rfl, hb4⟩
        have HST4 := Lib.hid (HDD.out.call hb4)
        clear HDD HVD
        have j1 := HST4.out.cellP
        have hs4 := HST4.out.le
        clear hb4
        show K _ w4
        refine hK.out _ _ HST4.out.cellsF (fun hHeld => ?_)
        clear hK K
        try simp only [List.getElem_toArray, List.getElem_cons_succ, List.getElem_cons_zero, Act.put, List.setIfInBounds_toArray, List.set_cons_zero, List.set_cons_succ]
        refine wpAnyH_ready (rs := [4]) (by kernel_rfl) (by simp) ?_
        refine AllReadyH.cons rfl (fun K hK => ?_) AllReadyH.nil
        have hcA := HST4.out.cellP_alloc (.cells #[.string (bstr x.path), .int .i64 x.bytes.length, .string (bstr (hexL (fnv x.bytes) 16))] 119)
        rw [if_pos (by rfl)]
        simp only [List.getElem_toArray, List.getElem_cons_succ, List.getElem_cons_zero]
        go_simp
        refine hK.out _ _ (HST4.out.cellsF_alloc _) (fun hHeld => ?_)
        clear hK K
        try simp only [List.getElem_toArray, List.getElem_cons_succ, List.getElem_cons_zero, Act.put, List.setIfInBounds_toArray, List.set_cons_zero, List.set_cons_succ]
        refine wpAnyH_ready (rs := [5]) (by kernel_rfl) (by simp) ?_
        refine AllReadyH.cons rfl (fun K hK => ?_) AllReadyH.nil
        refine step_app_new (w := w4) (by rfl) (.tmp 29) (.tmp 32) 53 (by rfl) 119 _ 3 40 Tryd.underlying53 ent_info rfl (by decide) (entCells (listedOf x)) 0 rfl HST4.out.row HST4.out.le rfl rfl rfl (by decide) (by simp [entCells, Value.oneCell']) (by unfold maxLen; omega) (by omega) ?_
        intro g1 cc1 w9 HO9 HG9 HB9 HL9
        have HP9 := Lib.hid (HST4.out.push HO9.out HG9.out HB9.out)
        have HS9 := Lib.hid (HST4.out.cellsF_app HG9.out)
        have l1 := HP9.out.1
        have lz := HP9.out.2.1
        have HQ9 := Lib.hid HP9.out.2.2
        clear HP9 HO9 HG9 HB9 HL9
        refine hK.out _ _ HS9.out (fun hHeld => ?_)
        clear hK K
        try simp only [List.getElem_toArray, List.getElem_cons_succ, List.getElem_cons_zero, Act.put, List.setIfInBounds_toArray, List.set_cons_zero, List.set_cons_succ]
        refine wpAnyH_take (i := 6) (v := ?_) rfl (by kernel_rfl) (by kernel_rfl) (by kernel_rfl) (fun _ _ _ h => h) (Or.inl ⟨by rfl, ?_⟩) (by assumption) ?_
        rotate_left
        · (intro w hSw; (try dsimp only at hSw); go_simp; try with_reducible rfl)
        try simp only [List.getElem_toArray, List.getElem_cons_succ, List.getElem_cons_zero, Act.put, List.setIfInBounds_toArray, List.set_cons_zero, List.set_cons_succ]
        refine wpAnyH_ready (rs := [7]) (by kernel_rfl) (by simp) ?_
        refine AllReadyH.cons rfl (fun K hK => ?_) AllReadyH.nil
        clear hHeld
        rw [if_pos (by rfl)]
        simp only [List.getElem_toArray, List.getElem_cons_succ, List.getElem_cons_zero]
        go_simp
        refine hK.out _ _ HQ9.out.cellsF (fun hHeld => ?_)
        clear hK K
        try simp only [List.getElem_toArray, List.getElem_cons_succ, List.getElem_cons_zero, Act.put, List.setIfInBounds_toArray, List.set_cons_zero, List.set_cons_succ]
        clear hHeld
        refine wpAnyH_done (by kernel_rfl) ?_ _
        clear hcA l1 lz HS9 HST4
        go_wp2_with fail
        go_roundw
        case rel => exact ⟨k + 1, _, hlt, by go_num, HQ9.out.blk, by rw [HST.out]; exact HQ9.out.row, HQ9.out.below⟩
        case measure => simp [intOf]; omega
      · rw [if_pos (by rfl)]
        simp only [List.getElem_toArray, List.getElem_cons_succ, List.getElem_cons_zero]
        go_simp
        go_at_call 69
        refine (refListed2_any x _ _ HVD.out).mono ?_
        rintro e w4 ⟨rfl, hb4⟩
        have HST4 := Lib.hid (HDD.out.call hb4)
        clear HDD HVD
        have j1 := HST4.out.cellP
        have hs4 := HST4.out.le
        clear hb4
        show K _ w4
        refine hK.out _ _ HST4.out.cellsF (fun hHeld => ?_)
        clear hK K
        try simp only [List.getElem_toArray, List.getElem_cons_succ, List.getElem_cons_zero, Act.put, List.setIfInBounds_toArray, List.set_cons_zero, List.set_cons_succ]
        refine wpAnyH_ready (rs := [1, 4]) (by kernel_rfl) (by simp) ?_
        refine AllReadyH.cons rfl (fun K hK => ?_) (AllReadyH.cons rfl (fun K hK => ?_) AllReadyH.nil)
        · rw [if_pos (by rfl)]
          simp only [List.getElem_toArray, List.getElem_cons_succ, List.getElem_cons_zero]
          go_simp
          refine hK.out _ _ hHeld (fun hHeld => ?_)
          clear hK K
          try simp only [List.getElem_toArray, List.getElem_cons_succ, List.getElem_cons_zero, Act.put, List.setIfInBounds_toArray, List.set_cons_zero, List.set_cons_succ]
          refine wpAnyH_ready (rs := [4]) (by kernel_rfl) (by simp) ?_
          refine AllReadyH.cons rfl (fun K hK => ?_) AllReadyH.nil
          have hcA := HST4.out.cellP_alloc (.cells #[.string (bstr x.path), .int .i64 x.bytes.length, .string (bstr (hexL (fnv x.bytes) 16))] 119)
          rw [if_pos (by rfl)]
          simp only [List.getElem_toArray, List.getElem_cons_succ, List.getElem_cons_zero]
          go_simp
          refine hK.out _ _ (HST4.out.cellsF_alloc _) (fun hHeld => ?_)
          clear hK K
          try simp only [List.getElem_toArray, List.getElem_cons_succ, List.getElem_cons_zero, Act.put, List.setIfInBounds_toArray, List.set_cons_zero, List.set_cons_succ]
          refine wpAnyH_ready (rs := [5]) (by kernel_rfl) (by simp) ?_
          refine AllReadyH.cons rfl (fun K hK => ?_) AllReadyH.nil
          refine step_app_new (w := w4) (by rfl) (.tmp 29) (.tmp 32) 53 (by rfl) 119 _ 3 40 Tryd.underlying53 ent_info rfl (by decide) (entCells (listedOf x)) 0 rfl HST4.out.row HST4.out.le rfl rfl rfl (by decide) (by simp [entCells, Value.oneCell']) (by unfold maxLen; omega) (by omega) ?_
          intro g1 cc1 w9 HO9 HG9 HB9 HL9
          have HP9 := Lib.hid (HST4.out.push HO9.out HG9.out HB9.out)
          have HS9 := Lib.hid (HST4.out.cellsF_app HG9.out)
          have l1 := HP9.out.1
          have lz := HP9.out.2.1
          have HQ9 := Lib.hid HP9.out.2.2
          clear HP9 HO9 HG9 HB9 HL9
          refine hK.out _ _ HS9.out (fun hHeld => ?_)
          clear hK K
          try simp only [List.getElem_toArray, List.getElem_cons_succ, List.getElem_cons_zero, Act.put, List.setIfInBounds_toArray, List.set_cons_zero, List.set_cons_succ]
          refine wpAnyH_take (i := 6) (v := ?_) rfl (by kernel_rfl) (by kernel_rfl) (by kernel_rfl) (fun _ _ _ h => h) (Or.inl ⟨by rfl, ?_⟩) (by assumption) ?_
          rotate_left
          · (intro w hSw; (try dsimp only at hSw); go_simp; try with_reducible rfl)
          try simp only [List.getElem_toArray, List.getElem_cons_succ, List.getElem_cons_zero, Act.put, List.setIfInBounds_toArray, List.set_cons_zero, List.set_cons_succ]
          refine wpAnyH_ready (rs := [7]) (by kernel_rfl) (by simp) ?_
          refine AllReadyH.cons rfl (fun K hK => ?_) AllReadyH.nil
          clear hHeld
          rw [if_pos (by rfl)]
          simp only [List.getElem_toArray, List.getElem_cons_succ, List.getElem_cons_zero]
          go_simp
          refine hK.out _ _ HQ9.out.cellsF (fun hHeld => ?_)
          clear hK K
          try simp only [List.getElem_toArray, List.getElem_cons_succ, List.getElem_cons_zero, Act.put, List.setIfInBounds_toArray, List.set_cons_zero, List.set_cons_succ]
          clear hHeld
          refine wpAnyH_done (by kernel_rfl) ?_ _
          clear hcA l1 lz HS9 HST4
          go_wp2_with fail
          go_roundw
          case rel => exact ⟨k + 1, _, hlt, by go_num, HQ9.out.blk, by rw [HST.out]; exact HQ9.out.row, HQ9.out.below⟩
          case measure => simp [intOf]; omega
        · have hcA := HST4.out.cellP_alloc (.cells #[.string (bstr x.path), .int .i64 x.bytes.length, .string (bstr (hexL (fnv x.bytes) 16))] 119)
          rw [if_pos (by rfl)]
          simp only [List.getElem_toArray, List.getElem_cons_succ, List.getElem_cons_zero]
          go_simp
          refine hK.out _ _ (HST4.out.cellsF_alloc _) (fun hHeld => ?_)
          clear hK K
          try simp only [List.getElem_toArray, List.getElem_cons_succ, List.getElem_cons_zero, Act.put, List.setIfInBounds_toArray, List.set_cons_zero, List.set_cons_succ]
          refine wpAnyH_ready (rs := [1]) (by kernel_rfl) (by simp) ?_
          refine AllReadyH.cons rfl (fun K hK => ?_) AllReadyH.nil
          rw [if_pos (by rfl)]
          simp only [List.getElem_toArray, List.getElem_cons_succ, List.getElem_cons_zero]
          go_simp
          refine hK.out _ _ hHeld (fun hHeld => ?_)
          clear hK K
          try simp only [List.getElem_toArray, List.getElem_cons_succ, List.getElem_cons_zero, Act.put, List.setIfInBounds_toArray, List.set_cons_zero, List.set_cons_succ]
          refine wpAnyH_ready (rs := [5]) (by kernel_rfl) (by simp) ?_
          refine AllReadyH.cons rfl (fun K hK => ?_) AllReadyH.nil
          refine step_app_new (w := w4) (by rfl) (.tmp 29) (.tmp 32) 53 (by rfl) 119 _ 3 40 Tryd.underlying53 ent_info rfl (by decide) (entCells (listedOf x)) 0 rfl HST4.out.row HST4.out.le rfl rfl rfl (by decide) (by simp [entCells, Value.oneCell']) (by unfold maxLen; omega) (by omega) ?_
          intro g1 cc1 w9 HO9 HG9 HB9 HL9
          have HP9 := Lib.hid (HST4.out.push HO9.out HG9.out HB9.out)
          have HS9 := Lib.hid (HST4.out.cellsF_app HG9.out)
          have l1 := HP9.out.1
          have lz := HP9.out.2.1
          have HQ9 := Lib.hid HP9.out.2.2
          clear HP9 HO9 HG9 HB9 HL9
          refine hK.out _ _ HS9.out (fun hHeld => ?_)
          clear hK K
          try simp only [List.getElem_toArray, List.getElem_cons_succ, List.getElem_cons_zero, Act.put, List.setIfInBounds_toArray, List.set_cons_zero, List.set_cons_succ]
          refine wpAnyH_take (i := 6) (v := ?_) rfl (by kernel_rfl) (by kernel_rfl) (by kernel_rfl) (fun _ _ _ h => h) (Or.inl ⟨by rfl, ?_⟩) (by assumption) ?_
          rotate_left
          · (intro w hSw; (try dsimp only at hSw); go_simp; try with_reducible rfl)
          try simp only [List.getElem_toArray, List.getElem_cons_succ, List.getElem_cons_zero, Act.put, List.setIfInBounds_toArray, List.set_cons_zero, List.set_cons_succ]
          refine wpAnyH_ready (rs := [7]) (by kernel_rfl) (by simp) ?_
          refine AllReadyH.cons rfl (fun K hK => ?_) AllReadyH.nil
          clear hHeld
          rw [if_pos (by rfl)]
          simp only [List.getElem_toArray, List.getElem_cons_succ, List.getElem_cons_zero]
          go_simp
          refine hK.out _ _ HQ9.out.cellsF (fun hHeld => ?_)
          clear hK K
          try simp only [List.getElem_toArray, List.getElem_cons_succ, List.getElem_cons_zero, Act.put, List.setIfInBounds_toArray, List.set_cons_zero, List.set_cons_succ]
          clear hHeld
          refine wpAnyH_done (by kernel_rfl) ?_ _
          clear hcA l1 lz HS9 HST4
          go_wp2_with fail
          go_roundw
          case rel => exact ⟨k + 1, _, hlt, by go_num, HQ9.out.blk, by rw [HST.out]; exact HQ9.out.row, HQ9.out.below⟩
          case measure => simp [intOf]; omega
    · -- the end
      obtain rfl : k = l.length := by omega
      rw [List.take_length] at HO
      have hkp := HK.out
      have p0 : wr.cell? ⟨w2.heap.size, 0, none⟩ = some (.string (bstr n)) := hkp.cell 0
      have p1 : wr.cell? ⟨w2.heap.size, 1, none⟩ = some (.slice AE l.length cE) := hkp.cell 1
      have hkr := HK2.out.same (same_below HB.out) hlw2
      have r0 : wr.cell? ⟨w.heap.size, 0, none⟩ = some (.string ⟨#[]⟩) := hkr.cell 0
      have r1 : wr.cell? ⟨w.heap.size, 1, none⟩ = some (.slice none 0 0) := hkr.cell 1
      have q0 : wr.frozen? ⟨w.heap.size, 0, none⟩ = false := hkr.frozen 0
      have q1 : wr.frozen? ⟨w.heap.size, 1, none⟩ = false := hkr.frozen 1
      have hbk := (hkr.set_ 0 (.string (bstr n))).set_ 1 (.slice AE l.length cE)
      have HBK := Lib.hid hbk
      have HPP := Lib.hid (PkgPost.good hlw2 HB2.out HPF.out HF.out HOK.out HB.out HO.out (v := .slice AE l.length cE) (n := n))
      clear hbk hkp hkr HK HO HB HB2 HOK HPF HK2 HF H2
      go_wp2_with fail
      refine bodyPost_ret (results_row2 rfl _ _ w.heap.size 55 [.string (bstr n), .slice AE l.length cE] _ rfl HBK.out Tryd.underlying55 rfl pack_info) rfl ?_
      exact HPP.out
end Go.Proofs.YtbafnemcdhdagaaDoor
