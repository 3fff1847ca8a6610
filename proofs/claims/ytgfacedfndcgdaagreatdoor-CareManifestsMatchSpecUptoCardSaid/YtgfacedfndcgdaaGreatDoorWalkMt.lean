/-
  The law 'CareManifestsMatchSpec' walked: it returns true where no path is longer than ten million bytes.
-/
import Derived.Test.YtgfacedfndcgdaaGreatDoorManM
import Derived.Test.YtgfacedfndcgdaaGreatDoorManN
import Derived.Test.YtgfacedfndcgdaaGreatDoorPkO
import Derived.Test.YtgfacedfndcgdaaGreatDoorAwake11
namespace Go.Proofs.YtgfacedfndcgdaaGreatDoor
open Go.RowKit
set_option linter.unusedVariables false
set_option linter.unusedSimpArgs false

theorem mt_fault {n : List UInt8} {l : List Ent} (h : (mtOut n l).2 = 0) : (mtOut n l).1.length ≤ 400000 ∧ rmOut (mtOut n l).1 = ⟨n, l, 0, 0⟩ := by
  by_cases hp : packFault n l = 0
  · by_cases hl : 400000 < (manText n l).length
    · rw [mt_large hp hl] at h; exact absurd h (by decide)
    · rw [mt_ok hp hl]; exact ⟨by show (manText n l).length ≤ _; omega, man_reads hp hl⟩
  · rw [mt_bad hp] at h; exact absurd h hp
set_option maxRecDepth 100000 in
set_option maxHeartbeats 4000000 in
theorem mtLaw_any (cs : Array Value) (p : PkR) (w : World) (h0 : pkRp.ok w (· < w.heap.size) cs.toList p) (f0 : pkRp.fits p) (b0 : pkBulk p ≤ 1048576) (hG : GInt w) (hT : TI w) :
    Calls Tryz.prog 3 #[.agg cs] w fun e w' => e = .returned (.bool true) ∧ Below w.heap.size w w' := by
  obtain ⟨v0, ecs, hz0, hents⟩ := pk_open h0
  obtain rfl : cs = #[.string (bstr p.name), v0] := by apply Array.toList_inj.1; rw [ecs]
  unfold maxLen at hz0
  obtain ⟨n, es⟩ := p
  dsimp only at hz0 hents ⊢
  have hn : n.length ≤ 9223372036854775807 := by omega
  obtain ⟨A0, c0, rfl, _⟩ := Rp.sl_open hents
  have HPE := Lib.hid (fun f hf => Nat.le_trans (mem_sum entBulk b0 f hf) (by omega : 1048576 ≤ 10000000))
  change Hid (∀ f ∈ es, f.path.length ≤ 10000000) at HPE
  have hab := (Below.refl w.heap.size w).alloc (Nat.le_refl _) (.cells #[.string (bstr n), .slice A0 es.length c0] 24)
  have hkb := Blk.new w 24 [.string (bstr n), .slice A0 es.length c0]
  have H0 := Lib.hid (Rp.ext _ hents hab)
  have HGI := Lib.hid (hG.ext hab)
  have HTI := Lib.hid (hT.ext hab)
  have HB0 := Lib.hid hab
  have HP0 := Lib.hid hkb
  clear h0 f0 b0 hG hT hents ecs hz0
  have k0 := HP0.out.cell 0
  have k1 := HP0.out.cell 1
  simp only [List.getElem?_cons_zero, List.getElem?_cons_succ] at k0 k1
  have HMF := Lib.hid (@mt_fault n es)
  go_enter Tryz.func3, Tryz.ntmps3
  go_wp2_with fail
  refine (manifest_any n _ es _ H0.out HGI.out HTI.out hn).mono ?_
  rintro e w1 ⟨rfl, hb⟩
  have HB1 := Lib.hid (ext_trans HB0.out hb)
  have H1 := Lib.hid (Rp.ext _ H0.out hb)
  have HG1 := Lib.hid (HGI.out.ext hb)
  have HT1 := Lib.hid (HTI.out.ext hb)
  have HP1 := Lib.hid (HP0.out.same (same_below hb) HP0.out.lt)
  clear hb HB0 H0 HGI HTI HP0 k0 k1
  have k0 := HP1.out.cell 0
  have k1 := HP1.out.cell 1
  simp only [List.getElem?_cons_zero, List.getElem?_cons_succ] at k0 k1
  have HRM := Lib.hid (refManifest_any n _ es w1 H1.out HG1.out HT1.out HPE.out hn)
  generalize mtOut n es = o at *
  obtain ⟨tx, ft⟩ := o
  dsimp only at HRM HMF ⊢
  go_wp2_with fail
  refine HRM.out.mono ?_
  rintro e w2 ⟨rfl, hb⟩
  have HB2 := Lib.hid (ext_trans HB1.out hb)
  have H2 := Lib.hid (Rp.ext _ H1.out hb)
  have HG2 := Lib.hid (HG1.out.ext hb)
  have HP2 := Lib.hid (HP1.out.same (same_below hb) HP1.out.lt)
  clear hb HB1 H1 HG1 HT1 HP1 k0 k1 HRM
  go_wp2_with fail
  refine (awake_any _).mono ?_
  rintro e w3 ⟨rfl, hb⟩
  have HB3 := Lib.hid (ext_trans HB2.out hb)
  have H3 := Lib.hid (Rp.ext _ H2.out hb)
  have HG3 := Lib.hid (HG2.out.ext hb)
  have HP3 := Lib.hid (HP2.out.same (same_below hb) HP2.out.lt)
  clear hb HB2 H2 HG2 HP2
  by_cases hf : ft = 0
  case neg =>
    have hne : (ft != 0) = true := by simpa using hf
    go_wp2_with fail
    go_ret
    exact ⟨rfl, HB3.out⟩
  subst hf
  obtain ⟨_, hrm⟩ := HMF.out rfl
  have HRM := Lib.hid (readManifest_any tx w3 HG3.out)
  have HPQ : Hid (∀ (w' : World) (e : Ending) (w'' : World), RmPost tx w' e w'' → ∃ v, e = .returned (.tuple #[.agg #[.string (bstr n), v], .int .i64 0, .int .i64 0]) ∧ (Rp.sl entRp).ok w'' (· < w''.heap.size) [v] es ∧ Below w'.heap.size w' w'') := Lib.hid (fun w' e w'' h => by
    have h2 : ∃ v, e = .returned (.tuple #[.agg #[.string (bstr (rmOut tx).nm), v], .int .i64 ((rmOut tx).line : Int), .int .i64 (rmOut tx).fault]) ∧ (Rp.sl entRp).ok w'' (· < w''.heap.size) [v] (rmOut tx).ents ∧ Below w'.heap.size w' w'' := h
    rw [hrm] at h2
    exact h2)
  clear hrm HMF
  go_wp2_with fail
  refine HRM.out.mono ?_
  rintro e w4 hpost
  obtain ⟨vx, rfl, hx, hb⟩ := HPQ.out _ _ _ hpost
  clear hpost HPQ
  obtain ⟨A, c, rfl, _⟩ := Rp.sl_open hx
  have hal := (Below.refl w4.heap.size w4).alloc (Nat.le_refl _) (.cells #[.string (bstr n), .slice A es.length c] 24)
  have HB4 := Lib.hid (ext_trans (ext_trans HB3.out hb) hal)
  have H4 := Lib.hid (Rp.ext _ (Rp.ext _ H3.out hb) hal)
  have HX4 := Lib.hid (Rp.ext _ hx hal)
  have HP4 := Lib.hid (HP3.out.same (same_below hb) HP3.out.lt)
  have HP5 := Lib.hid (HP4.out.same (same_below hal) HP4.out.lt)
  have HK5 := Lib.hid (Blk.new w4 24 [.string (bstr n), .slice A es.length c])
  clear hb hal hx HB3 H3 HP3 HP4 HRM HG3
  have k0 := HP5.out.cell 0
  have k1 := HP5.out.cell 1
  have l0 := HK5.out.cell 0
  have l1 := HK5.out.cell 1
  simp only [List.getElem?_cons_zero, List.getElem?_cons_succ] at k0 k1 l0 l1
  go_wp2_with fail
  refine (samePack_any n _ _ es _ HX4.out H4.out).mono ?_
  rintro e w5 ⟨rfl, hb⟩
  have HB5 := Lib.hid (ext_trans HB4.out hb)
  clear hb HB4 H4 HX4 HP5 HK5 k0 k1 l0 l1
  go_wp2_with fail
  go_ret
  exact ⟨rfl, HB5.out⟩
end Go.Proofs.YtgfacedfndcgdaaGreatDoor
