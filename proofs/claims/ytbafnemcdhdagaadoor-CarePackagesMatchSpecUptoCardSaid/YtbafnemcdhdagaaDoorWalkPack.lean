/-
  The law 'CarePackagesMatchSpec' walked: it returns true where no path is longer than ten million bytes.
-/
import Derived.Test.YtbafnemcdhdagaaDoorSamePk
import Derived.Test.YtbafnemcdhdagaaDoorRefWrong
import Derived.Test.YtbafnemcdhdagaaDoorAwake11
namespace Go.Proofs.YtbafnemcdhdagaaDoor
open Go.RowKit
set_option linter.unusedVariables false
set_option linter.unusedSimpArgs false

set_option maxRecDepth 100000 in
set_option maxHeartbeats 8000000 in
theorem packLaw_any (cs : Array Value) (p : PkR) (v1 : Value) (s1 : ByteArray) (v2 : Value) (l : List FileR) (w : World) (h0 : pkRp.ok w (· < w.heap.size) cs.toList p) (f0 : pkRp.fits p) (b0 : pkBulk p ≤ 1048576)
    (h1 : Rp.str.ok w (· < w.heap.size) [v1] s1) (f1 : Rp.str.fits s1) (h2 : (Rp.sl fileRp).ok w (· < w.heap.size) [v2] l) (f2 : (Rp.sl fileRp).fits l) (b2 : (l.map fileBulk).sum ≤ 1048576) (hG : GInt w) :
    Calls Tryd.prog 6 #[.agg cs, v1, v2] w fun e w' => e = .returned (.bool true) ∧ Below w.heap.size w w' := by
  obtain ⟨v0, ecs, hz0, hents⟩ := pk_open h0
  obtain rfl : cs = #[.string (bstr p.name), v0] := by apply Array.toList_inj.1; rw [ecs]
  obtain ⟨e1, z1⟩ := h1
  injection e1 with e1
  subst e1
  obtain ⟨n, rfl⟩ : ∃ a, s1 = bstr a := ⟨_, (bstr_eq s1).symm⟩
  rw [bstr_size] at z1
  unfold maxLen at z1 hz0
  have hn : n.length ≤ 9223372036854775807 := by omega
  have hpn : p.name.length ≤ 9223372036854775807 := by omega
  obtain ⟨A0, c0, rfl, _⟩ := Rp.sl_open hents
  have HPE := Lib.hid (fun f hf => Nat.le_trans (mem_sum entBulk b0 f hf) (by omega : 1048576 ≤ 10000000))
  have HPL := Lib.hid (fun f hf => Nat.le_trans (mem_sum fileBulk b2 f hf) (by omega : 1048576 ≤ 10000000))
  change Hid (∀ f ∈ p.ents, f.path.length ≤ 10000000) at HPE
  change Hid (∀ f ∈ l, f.path.length ≤ 10000000) at HPL
  have hab := (Below.refl w.heap.size w).alloc (Nat.le_refl _) (.cells #[.string (bstr p.name), .slice A0 p.ents.length c0] 55)
  have hkb := Blk.new w 55 [.string (bstr p.name), .slice A0 p.ents.length c0]
  have H0 := Lib.hid hents
  have H2 := Lib.hid h2
  have HGI := Lib.hid hG
  have HB0 := Lib.hid hab
  have HP0 := Lib.hid hkb
  have hlp0 := hkb.lt
  clear h0 f0 b0 f1 h2 f2 b2 hG hab hkb hents ecs z1 hz0
  go_enter Tryd.func6, Tryd.ntmps6
  go_wp2_with fail
  refine (packageOf_any n v2 l _ (Rp.ext _ H2.out HB0.out) (HGI.out.ext HB0.out) hn).mono ?_
  rintro e w1 ⟨vx, rfl, hx, hb⟩
  have HB1 := Lib.hid (HB0.out.trans (hb.mono HB0.out.size))
  have HP1 := Lib.hid (HP0.out.same (same_below hb) hlp0)
  have hlp1 := HP1.out.lt
  clear hb HB0 HP0 hlp0
  obtain ⟨Ax, cx, rfl, _⟩ := Rp.sl_open hx
  go_wp2_with fail
  obtain ⟨w2, hw2⟩ : ∃ w2, w2 = w1.alloc (.cells #[.string (bstr (pkName n l)), .slice Ax (pkEnts n l).length cx] 55) := ⟨_, rfl⟩
  have hb : Below w1.heap.size w1 w2 := by rw [hw2]; exact (Below.refl w1.heap.size w1).alloc (Nat.le_refl _) _
  have HX2 : Hid (Blk w2 w1.heap.size 55 [.string (bstr (pkName n l)), .slice Ax (pkEnts n l).length cx]) := Lib.hid (by rw [hw2]; exact Blk.new w1 _ _)
  rw [← hw2]
  clear hw2
  have HB2 := Lib.hid (HB1.out.trans (hb.mono HB1.out.size))
  have HP2 := Lib.hid (HP1.out.same (same_below hb) hlp1)
  have HVX2 := Lib.hid (Rp.ext _ hx hb)
  have hlp2 := HP2.out.lt
  have hlx2 := HX2.out.lt
  clear hb HB1 HP1 hlp1 hx
  refine (refPackageOf_any n v2 l w2 (Rp.ext _ H2.out HB2.out) (HGI.out.ext HB2.out) HPL.out hn).mono ?_
  rintro e w3 ⟨vy, rfl, hy, hb⟩
  have HB3 := Lib.hid (HB2.out.trans (hb.mono HB2.out.size))
  have HP3 := Lib.hid (HP2.out.same (same_below hb) hlp2)
  have HX3 := Lib.hid (HX2.out.same (same_below hb) hlx2)
  have HVX3 := Lib.hid (Rp.ext _ HVX2.out hb)
  have hlp3 := HP3.out.lt
  have hlx3 := HX3.out.lt
  clear hb HB2 HP2 HX2 HVX2 hlp2 hlx2
  obtain ⟨Ay, cy, rfl, _⟩ := Rp.sl_open hy
  generalize pkName n l = nm at *
  generalize pkFault n l = pf at *
  generalize pkEnts n l = pe at *
  go_wp2_with fail
  obtain ⟨w4, hw4⟩ : ∃ w4, w4 = w3.alloc (.cells #[.string (bstr nm), .slice Ay pe.length cy] 55) := ⟨_, rfl⟩
  have hb : Below w3.heap.size w3 w4 := by rw [hw4]; exact (Below.refl w3.heap.size w3).alloc (Nat.le_refl _) _
  have HY4 : Hid (Blk w4 w3.heap.size 55 [.string (bstr nm), .slice Ay pe.length cy]) := Lib.hid (by rw [hw4]; exact Blk.new w3 _ _)
  rw [← hw4]
  clear hw4
  have HB4 := Lib.hid (HB3.out.trans (hb.mono HB3.out.size))
  have HP4 := Lib.hid (HP3.out.same (same_below hb) hlp3)
  have HX4 := Lib.hid (HX3.out.same (same_below hb) hlx3)
  have HVX4 := Lib.hid (Rp.ext _ HVX3.out hb)
  have HVY4 := Lib.hid (Rp.ext _ hy hb)
  have hlp4 := HP4.out.lt
  have hlx4 := HX4.out.lt
  have hly4 := HY4.out.lt
  clear hb HB3 HP3 HX3 HVX3 hlp3 hlx3 hy
  have HS := Lib.hid (And.intro (And.intro (HP4.out.cell 0) (HP4.out.cell 1)) (And.intro (And.intro (HX4.out.cell 0) (HX4.out.cell 1)) (And.intro (HY4.out.cell 0) (HY4.out.cell 1))))
  refine wp_region_held_drew (S := fun w' => (w'.cell? ⟨w.heap.size, 0, none⟩ = some (.string (bstr p.name)) ∧ w'.cell? ⟨w.heap.size, 1, none⟩ = some (.slice A0 p.ents.length c0)) ∧ (w'.cell? ⟨w1.heap.size, 0, none⟩ = some (.string (bstr nm)) ∧ w'.cell? ⟨w1.heap.size, 1, none⟩ = some (.slice Ax pe.length cx)) ∧ (w'.cell? ⟨w3.heap.size, 0, none⟩ = some (.string (bstr nm)) ∧ w'.cell? ⟨w3.heap.size, 1, none⟩ = some (.slice Ay pe.length cy))) (by kernel_rfl) HS.out (fun hHeld => ?_)
  obtain ⟨w5, hw5⟩ : ∃ w5, w5 = w4.drew := ⟨_, rfl⟩
  have hb : Below w4.heap.size w4 w5 := by rw [hw5]; exact (Below.refl w4.heap.size w4).drew
  rw [← hw5] at hHeld ⊢
  clear hw5 HS
  have HB5 := Lib.hid (HB4.out.trans (hb.mono HB4.out.size))
  have HP5 := Lib.hid (HP4.out.same (same_below hb) (hlp4 : _ < _))
  have HX5 := Lib.hid (HX4.out.same (same_below hb) (hlx4 : _ < _))
  have HY5 := Lib.hid (HY4.out.same (same_below hb) (hly4 : _ < _))
  have HVX5 := Lib.hid (Rp.ext _ HVX4.out hb)
  have HVY5 := Lib.hid (Rp.ext _ HVY4.out hb)
  have hlp5 := HP5.out.lt
  have hlx5 := HX5.out.lt
  have hly5 := HY5.out.lt
  have HS := Lib.hid (And.intro (And.intro (HP5.out.cell 0) (HP5.out.cell 1)) (And.intro (And.intro (HX5.out.cell 0) (HX5.out.cell 1)) (And.intro (HY5.out.cell 0) (HY5.out.cell 1))))
  clear hb
  clear HS
  refine wpAnyH_take (i := 0) (v := ?_) rfl (by kernel_rfl) (by kernel_rfl) (by kernel_rfl) (fun _ _ _ h => h) (Or.inl ⟨by rfl, ?_⟩) (by assumption) ?_
  rotate_left
  · (intro w hSw; (try dsimp only at hSw); go_simp; try with_reducible rfl)
  try simp only [List.getElem_toArray, List.getElem_cons_succ, List.getElem_cons_zero, Act.put, List.setIfInBounds_toArray, List.set_cons_zero, List.set_cons_succ]
  refine wpAnyH_take (i := 2) (v := ?_) rfl (by kernel_rfl) (by kernel_rfl) (by kernel_rfl) (fun _ _ _ h => h) (Or.inl ⟨by rfl, ?_⟩) (by assumption) ?_
  rotate_left
  · (intro w hSw; (try dsimp only at hSw); go_simp; try with_reducible rfl)
  try simp only [List.getElem_toArray, List.getElem_cons_succ, List.getElem_cons_zero, Act.put, List.setIfInBounds_toArray, List.set_cons_zero, List.set_cons_succ]
  refine wpAnyH_ready (rs := [1]) (by kernel_rfl) (by simp) ?_
  refine AllReadyH.cons rfl (fun K hK => ?_) AllReadyH.nil
  rw [if_pos (by rfl)]
  simp only [List.getElem_toArray, List.getElem_cons_succ, List.getElem_cons_zero]
  go_simp
  go_at_call 23
  refine (checkPackage_any p.name _ p.ents _ (Rp.ext _ H0.out HB5.out) (HGI.out.ext HB5.out) hpn).mono ?_
  rintro e w6 ⟨rfl, hb⟩
  have HB6 := Lib.hid (HB5.out.trans (hb.mono HB5.out.size))
  have HP6 := Lib.hid (HP5.out.same (same_below hb) (hlp5 : _ < _))
  have HX6 := Lib.hid (HX5.out.same (same_below hb) (hlx5 : _ < _))
  have HY6 := Lib.hid (HY5.out.same (same_below hb) (hly5 : _ < _))
  have HVX6 := Lib.hid (Rp.ext _ HVX5.out hb)
  have HVY6 := Lib.hid (Rp.ext _ HVY5.out hb)
  have hlp6 := HP6.out.lt
  have hlx6 := HX6.out.lt
  have hly6 := HY6.out.lt
  have HS := Lib.hid (And.intro (And.intro (HP6.out.cell 0) (HP6.out.cell 1)) (And.intro (And.intro (HX6.out.cell 0) (HX6.out.cell 1)) (And.intro (HY6.out.cell 0) (HY6.out.cell 1))))
  clear hb
  show K _ w6
  refine hK.out _ _ HS.out (fun hHeld => ?_)
  clear hK K
  try simp only [List.getElem_toArray, List.getElem_cons_succ, List.getElem_cons_zero, Act.put, List.setIfInBounds_toArray, List.set_cons_zero, List.set_cons_succ]
  clear HS
  refine wpAnyH_ready (rs := [3]) (by kernel_rfl) (by simp) ?_
  refine AllReadyH.cons rfl (fun K hK => ?_) AllReadyH.nil
  rw [if_pos (by rfl)]
  simp only [List.getElem_toArray, List.getElem_cons_succ, List.getElem_cons_zero]
  go_simp
  go_at_call 24
  refine (refCheckPackage_any p.name _ p.ents _ (Rp.ext _ H0.out HB6.out) (HGI.out.ext HB6.out) HPE.out hpn).mono ?_
  rintro e w7 ⟨rfl, hb⟩
  have HB7 := Lib.hid (HB6.out.trans (hb.mono HB6.out.size))
  have HP7 := Lib.hid (HP6.out.same (same_below hb) (hlp6 : _ < _))
  have HX7 := Lib.hid (HX6.out.same (same_below hb) (hlx6 : _ < _))
  have HY7 := Lib.hid (HY6.out.same (same_below hb) (hly6 : _ < _))
  have HVX7 := Lib.hid (Rp.ext _ HVX6.out hb)
  have HVY7 := Lib.hid (Rp.ext _ HVY6.out hb)
  have hlp7 := HP7.out.lt
  have hlx7 := HX7.out.lt
  have hly7 := HY7.out.lt
  have HS := Lib.hid (And.intro (And.intro (HP7.out.cell 0) (HP7.out.cell 1)) (And.intro (And.intro (HX7.out.cell 0) (HX7.out.cell 1)) (And.intro (HY7.out.cell 0) (HY7.out.cell 1))))
  clear hb
  show K _ w7
  refine hK.out _ _ HS.out (fun hHeld => ?_)
  clear hK K
  try simp only [List.getElem_toArray, List.getElem_cons_succ, List.getElem_cons_zero, Act.put, List.setIfInBounds_toArray, List.set_cons_zero, List.set_cons_succ]
  clear HS
  generalize packFault p.name p.ents = cf at *
  refine wpAnyH_take (i := 4) (v := ?_) rfl (by kernel_rfl) (by kernel_rfl) (by kernel_rfl) (fun _ _ _ h => h) (Or.inl ⟨by rfl, ?_⟩) (by assumption) ?_
  rotate_left
  · (intro w hSw; (try dsimp only at hSw); go_simp; try with_reducible rfl)
  try simp only [List.getElem_toArray, List.getElem_cons_succ, List.getElem_cons_zero, Act.put, List.setIfInBounds_toArray, List.set_cons_zero, List.set_cons_succ]
  refine wpAnyH_take (i := 5) (v := ?_) rfl (by kernel_rfl) (by kernel_rfl) (by kernel_rfl) (fun _ _ _ h => h) (Or.inl ⟨by rfl, ?_⟩) (by assumption) ?_
  rotate_left
  · (intro w hSw; (try dsimp only at hSw); go_simp; try with_reducible rfl)
  try simp only [List.getElem_toArray, List.getElem_cons_succ, List.getElem_cons_zero, Act.put, List.setIfInBounds_toArray, List.set_cons_zero, List.set_cons_succ]
  refine wpAnyH_take (i := 6) (v := ?_) rfl (by kernel_rfl) (by kernel_rfl) (by kernel_rfl) (fun _ _ _ h => h) (Or.inl ⟨by rfl, ?_⟩) (by assumption) ?_
  rotate_left
  · (intro w hSw; (try dsimp only at hSw); go_simp; try with_reducible rfl)
  try simp only [List.getElem_toArray, List.getElem_cons_succ, List.getElem_cons_zero, Act.put, List.setIfInBounds_toArray, List.set_cons_zero, List.set_cons_succ]
  refine wpAnyH_take (i := 7) (v := ?_) rfl (by kernel_rfl) (by kernel_rfl) (by kernel_rfl) (fun _ _ _ h => h) (Or.inl ⟨by rfl, ?_⟩) (by assumption) ?_
  rotate_left
  · (intro w hSw; (try dsimp only at hSw); go_simp; try with_reducible rfl)
  try simp only [List.getElem_toArray, List.getElem_cons_succ, List.getElem_cons_zero, Act.put, List.setIfInBounds_toArray, List.set_cons_zero, List.set_cons_succ]
  refine wpAnyH_take (i := 8) (v := ?_) rfl (by kernel_rfl) (by kernel_rfl) (by kernel_rfl) (fun _ _ _ h => h) (Or.inl ⟨by rfl, ?_⟩) (by assumption) ?_
  rotate_left
  · (intro w hSw; (try dsimp only at hSw); go_simp; try with_reducible rfl)
  try simp only [List.getElem_toArray, List.getElem_cons_succ, List.getElem_cons_zero, Act.put, List.setIfInBounds_toArray, List.set_cons_zero, List.set_cons_succ]
  refine wpAnyH_take (i := 9) (v := ?_) rfl (by kernel_rfl) (by kernel_rfl) (by kernel_rfl) (fun _ _ _ h => h) (Or.inl ⟨by rfl, ?_⟩) (by assumption) ?_
  rotate_left
  · (intro w hSw; (try dsimp only at hSw); go_simp; try with_reducible rfl)
  try simp only [List.getElem_toArray, List.getElem_cons_succ, List.getElem_cons_zero, Act.put, List.setIfInBounds_toArray, List.set_cons_zero, List.set_cons_succ]
  refine wpAnyH_take (i := 10) (v := ?_) rfl (by kernel_rfl) (by kernel_rfl) (by kernel_rfl) (fun _ _ _ h => h) (Or.inl ⟨by rfl, ?_⟩) (by assumption) ?_
  rotate_left
  · (intro w hSw; (try dsimp only at hSw); go_simp; try with_reducible rfl)
  try simp only [List.getElem_toArray, List.getElem_cons_succ, List.getElem_cons_zero, Act.put, List.setIfInBounds_toArray, List.set_cons_zero, List.set_cons_succ]
  refine wpAnyH_take (i := 11) (v := ?_) rfl (by kernel_rfl) (by kernel_rfl) (by kernel_rfl) (fun _ _ _ h => h) (Or.inl ⟨by rfl, ?_⟩) (by assumption) ?_
  rotate_left
  · (intro w hSw; (try dsimp only at hSw); go_simp; try with_reducible rfl)
  try simp only [List.getElem_toArray, List.getElem_cons_succ, List.getElem_cons_zero, Act.put, List.setIfInBounds_toArray, List.set_cons_zero, List.set_cons_succ]
  refine wpAnyH_take (i := 12) (v := ?_) rfl (by kernel_rfl) (by kernel_rfl) (by kernel_rfl) (fun _ _ _ h => h) (Or.inl ⟨by rfl, ?_⟩) (by assumption) ?_
  rotate_left
  · (intro w hSw; (try dsimp only at hSw); go_simp; try with_reducible rfl)
  try simp only [List.getElem_toArray, List.getElem_cons_succ, List.getElem_cons_zero, Act.put, List.setIfInBounds_toArray, List.set_cons_zero, List.set_cons_succ]
  refine wpAnyH_ready (rs := [13]) (by kernel_rfl) (by simp) ?_
  refine AllReadyH.cons rfl (fun K hK => ?_) AllReadyH.nil
  rw [if_pos (by rfl)]
  simp only [List.getElem_toArray, List.getElem_cons_succ, List.getElem_cons_zero]
  go_simp
  go_at_call 25
  refine (samePack_any nm _ _ pe _ HVX7.out HVY7.out).mono ?_
  rintro e w8 ⟨rfl, hb⟩
  have HB8 := Lib.hid (HB7.out.trans (hb.mono HB7.out.size))
  have HP8 := Lib.hid (HP7.out.same (same_below hb) (hlp7 : _ < _))
  have HX8 := Lib.hid (HX7.out.same (same_below hb) (hlx7 : _ < _))
  have HY8 := Lib.hid (HY7.out.same (same_below hb) (hly7 : _ < _))
  have HVX8 := Lib.hid (Rp.ext _ HVX7.out hb)
  have HVY8 := Lib.hid (Rp.ext _ HVY7.out hb)
  have hlp8 := HP8.out.lt
  have hlx8 := HX8.out.lt
  have hly8 := HY8.out.lt
  have HS := Lib.hid (And.intro (And.intro (HP8.out.cell 0) (HP8.out.cell 1)) (And.intro (And.intro (HX8.out.cell 0) (HX8.out.cell 1)) (And.intro (HY8.out.cell 0) (HY8.out.cell 1))))
  clear hb
  show K _ w8
  refine hK.out _ _ HS.out (fun hHeld => ?_)
  clear hK K
  try simp only [List.getElem_toArray, List.getElem_cons_succ, List.getElem_cons_zero, Act.put, List.setIfInBounds_toArray, List.set_cons_zero, List.set_cons_succ]
  refine wpAnyH_take (i := 14) (v := ?_) rfl (by kernel_rfl) (by kernel_rfl) (by kernel_rfl) (fun _ _ _ h => h) (Or.inl ⟨by rfl, ?_⟩) (by assumption) ?_
  rotate_left
  · (intro w hSw; (try dsimp only at hSw); go_simp; try with_reducible rfl)
  try simp only [List.getElem_toArray, List.getElem_cons_succ, List.getElem_cons_zero, Act.put, List.setIfInBounds_toArray, List.set_cons_zero, List.set_cons_succ]
  refine wpAnyH_take (i := 15) (v := ?_) rfl (by kernel_rfl) (by kernel_rfl) (by kernel_rfl) (fun _ _ _ h => h) (Or.inl ⟨by rfl, ?_⟩) (by assumption) ?_
  rotate_left
  · (intro w hSw; (try dsimp only at hSw); go_simp; try with_reducible rfl)
  try simp only [List.getElem_toArray, List.getElem_cons_succ, List.getElem_cons_zero, Act.put, List.setIfInBounds_toArray, List.set_cons_zero, List.set_cons_succ]
  refine wpAnyH_done (by kernel_rfl) ?_ _
  clear hHeld HS
  have k0 : w8.cell? ⟨w.heap.size, 0, none⟩ = some (.string (bstr p.name)) := HP8.out.cell 0
  have k1 : w8.cell? ⟨w.heap.size, 1, none⟩ = some (.slice A0 p.ents.length c0) := HP8.out.cell 1
  go_wp2_with fail
  refine (wrong_any p.name _ p.ents v2 l w8 (Rp.ext _ H0.out HB8.out) (Rp.ext _ H2.out HB8.out) (HGI.out.ext HB8.out) hpn).mono ?_
  rintro e w9 ⟨va, outa, rfl, hva, hb, hperm, hnil⟩
  have HB9 := Lib.hid (HB8.out.trans (hb.mono HB8.out.size))
  have hp9 := HP8.out.same (same_below hb) hlp8
  have ha : outa = if wrFault p.name p.ents l = 0 then mergeL p.ents l else [] := by
    by_cases h : wrFault p.name p.ents l = 0
    · rw [if_pos h]; exact wrong_merge h (hperm h).1 (hperm h).2
    · rw [if_neg h]; exact hnil h
  subst ha
  obtain ⟨Aa, ca, rfl, _⟩ := Rp.sl_open hva
  have HVA := Lib.hid hva
  clear k0 k1 hb hperm hnil hva
  have k0 : w9.cell? ⟨w.heap.size, 0, none⟩ = some (.string (bstr p.name)) := hp9.cell 0
  have k1 : w9.cell? ⟨w.heap.size, 1, none⟩ = some (.slice A0 p.ents.length c0) := hp9.cell 1
  clear hp9
  have HCR := Lib.hid (refWrong_any p.name _ p.ents v2 l w9 (Rp.ext _ H0.out HB9.out) (Rp.ext _ H2.out HB9.out) (HGI.out.ext HB9.out) HPE.out HPL.out hpn)
  unfold RWrongPost at HCR
  generalize (if wrFault p.name p.ents l = 0 then mergeL p.ents l else []) = M at *
  generalize wrFault p.name p.ents l = wf at *
  go_wp2_with fail
  refine HCR.out.mono ?_
  rintro e w10 ⟨vb, rfl, hvb, hb⟩
  have HB10 := Lib.hid (HB9.out.trans (hb.mono HB9.out.size))
  have HVA2 := Lib.hid (Rp.ext _ HVA.out hb)
  have HVB := Lib.hid hvb
  obtain ⟨Ab, cb, rfl, _⟩ := Rp.sl_open hvb
  clear k0 k1 hb hvb HVA HCR
  have hd : decide (M = M) = true := decide_eq_true rfl
  go_wp2_with fail
  refine (eqDefs_any _ _ M M _ _ _ HVA2.out HVB.out).mono ?_
  rintro e w11 ⟨rfl, nq, rfl⟩
  have HB11 := Lib.hid (below_drewN HB10.out nq)
  go_wp2_with (go_at_call 9; refine (awake_any _).mono ?_; rintro e w12 ⟨rfl, hb12⟩)
  go_ret
  exact ⟨rfl, HB11.out.trans (hb12.mono HB11.out.size)⟩
end Go.Proofs.YtbafnemcdhdagaaDoor
