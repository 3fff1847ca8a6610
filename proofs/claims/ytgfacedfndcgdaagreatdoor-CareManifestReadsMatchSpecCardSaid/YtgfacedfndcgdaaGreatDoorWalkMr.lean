/-
  The law 'CareManifestReadsMatchSpec' walked: it returns true.
-/
import Derived.Test.YtgfacedfndcgdaaGreatDoorManG
import Derived.Test.YtgfacedfndcgdaaGreatDoorSamePq
import Derived.Test.YtgfacedfndcgdaaGreatDoorAwake11
import Derived.Test.YtgfacedfndcgdaaGreatDoorOpen
namespace Go.Proofs.YtgfacedfndcgdaaGreatDoor
open Go.RowKit
set_option linter.unusedVariables false

set_option maxRecDepth 100000 in
set_option maxHeartbeats 2000000 in
theorem mrLaw_any (v0 : Value) (s0 : ByteArray) (w : World) (h0 : Rp.str.ok w (· < w.heap.size) [v0] s0) (f0 : Rp.str.fits s0) (hG : GInt w) :
    Calls Tryz.prog 4 #[v0] w fun e w' => e = .returned (.bool true) ∧ Below w.heap.size w w' := by
  obtain ⟨e0, z0⟩ := h0
  injection e0 with e0
  subst e0
  obtain ⟨text, rfl⟩ : ∃ a, s0 = bstr a := ⟨_, (bstr_eq s0).symm⟩
  have HG := Lib.hid hG
  clear f0 z0 hG
  go_enter Tryz.func4, Tryz.ntmps4
  go_wp2_with fail
  refine (readManifest_any text w HG.out).mono ?_
  rintro e w1 ⟨vx, rfl, hx, hb⟩
  obtain ⟨A, c, rfl, _⟩ := Rp.sl_open hx
  have HB1 := Lib.hid hb
  have HX := Lib.hid hx
  clear hx hb
  have HMR : Hid (∀ w' : World, GInt w' → Calls Tryz.prog 10 #[.string (bstr text)] w' (RmPost text w')) := Lib.hid (fun w' h => refReadManifest_any text w' h)
  have HPQ : Hid (∀ (w' : World) (e : Ending) (w'' : World), RmPost text w' e w'' → ∃ v, e = .returned (.tuple #[.agg #[.string (bstr (rmOut text).nm), v], .int .i64 ((rmOut text).line : Int), .int .i64 (rmOut text).fault]) ∧ (Rp.sl entRp).ok w'' (· < w''.heap.size) [v] (rmOut text).ents ∧ Below w'.heap.size w' w'') := Lib.hid (fun _ _ _ h => h)
  generalize rmOut text = o at *
  obtain ⟨nm, es, ln, ft⟩ := o
  dsimp only at HX HPQ ⊢
  have hal := (Below.refl w1.heap.size w1).alloc (Nat.le_refl _) (.cells #[.string (bstr nm), .slice A es.length c] 24)
  have HB2 := Lib.hid (ext_trans HB1.out hal)
  have HX2 := Lib.hid (Rp.ext _ HX.out hal)
  have HK2 := Lib.hid (Blk.new w1 24 [.string (bstr nm), .slice A es.length c])
  clear hal HB1 HX
  go_wp2_with fail
  refine (HMR.out _ (HG.out.ext HB2.out)).mono ?_
  rintro e w3 hpost
  obtain ⟨vy, rfl, hy, hb⟩ := HPQ.out _ _ _ hpost
  obtain ⟨B, d, rfl, _⟩ := Rp.sl_open hy
  have HB3 := Lib.hid (ext_trans HB2.out hb)
  have HX3 := Lib.hid (Rp.ext _ HX2.out hb)
  have HK3 := Lib.hid (HK2.out.same (same_below hb) HK2.out.lt)
  have hal := (Below.refl w3.heap.size w3).alloc (Nat.le_refl _) (.cells #[.string (bstr nm), .slice B es.length d] 24)
  have HB4 := Lib.hid (ext_trans HB3.out hal)
  have HX4 := Lib.hid (Rp.ext _ HX3.out hal)
  have HY4 := Lib.hid (Rp.ext _ hy hal)
  have HK4 := Lib.hid (HK3.out.same (same_below hal) HK3.out.lt)
  have HL4 := Lib.hid (Blk.new w3 24 [.string (bstr nm), .slice B es.length d])
  clear hal hb hy hpost HB3 HX3 HK3 HB2 HX2 HK2 HMR HPQ
  have k0 := HK4.out.cell 0
  have k1 := HK4.out.cell 1
  have l0 := HL4.out.cell 0
  have l1 := HL4.out.cell 1
  simp only [List.getElem?_cons_zero, List.getElem?_cons_succ] at k0 k1 l0 l1
  go_wp2_with fail
  refine (samePack_any nm _ _ es _ HX4.out HY4.out).mono ?_
  rintro e w5 ⟨rfl, hb⟩
  have HB5 := Lib.hid (ext_trans HB4.out hb)
  clear hb HX4 HY4 HK4 HL4 k0 k1 l0 l1 HB4
  go_wp2_with fail
  refine (awake_any _).mono ?_
  rintro e w6 ⟨rfl, hb6⟩
  have HB6 := Lib.hid (ext_trans HB5.out hb6)
  clear hb6
  go_wp2_with fail
  go_ret
  exact ⟨rfl, HB6.out⟩
end Go.Proofs.YtgfacedfndcgdaaGreatDoor
