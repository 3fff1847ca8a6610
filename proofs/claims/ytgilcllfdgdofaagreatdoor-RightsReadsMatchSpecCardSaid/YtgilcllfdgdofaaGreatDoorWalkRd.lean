/-
  The law 'RightsReadsMatchSpec' walked: it returns true.
-/
import Derived.Test.YtgilcllfdgdofaaGreatDoorRdU
import Derived.Test.YtgilcllfdgdofaaGreatDoorEqRd
import Derived.Test.YtgilcllfdgdofaaGreatDoorAwake10
import Derived.Test.YtgilcllfdgdofaaGreatDoorOpen
namespace Go.Proofs.YtgilcllfdgdofaaGreatDoor
open Go.RowKit
set_option linter.unusedVariables false
set_option linter.unusedSimpArgs false

set_option maxRecDepth 100000 in
set_option maxHeartbeats 2000000 in
theorem rdLaw_any (v0 : Value) (s0 : ByteArray) (w : World) (h0 : Rp.str.ok w (· < w.heap.size) [v0] s0) (f0 : Rp.str.fits s0) (hG : GInt w) :
    Calls Tryz.prog 3 #[v0] w fun e w' => e = .returned (.bool true) ∧ Below w.heap.size w w' := by
  obtain ⟨e0, z0⟩ := h0
  injection e0 with e0
  subst e0
  obtain ⟨text, rfl⟩ : ∃ a, s0 = bstr a := ⟨_, (bstr_eq s0).symm⟩
  have HG := Lib.hid hG
  clear f0 z0 hG
  go_enter Tryz.func3, Tryz.ntmps3
  go_wp2_with fail
  refine (readRights_any text w HG.out).mono ?_
  rintro e w1 ⟨vx, rfl, hx, hb⟩
  have HB1 := Lib.hid hb
  have HX := Lib.hid hx
  clear hx hb
  have HMR := Lib.hid (refReadRights_any text w1 (HG.out.ext HB1.out))
  have HPQ : Hid (∀ (w' : World) (e : Ending) (w'' : World), RrPost text w' e w'' → ∃ v, e = .returned (.tuple #[v, .int .i64 ((rrOut text).2.1 : Int), .int .i64 (rrOut text).2.2]) ∧ (Rp.sl rgtRp).ok w'' (· < w''.heap.size) [v] (rrOut text).1 ∧ Below w'.heap.size w' w'') := Lib.hid (fun _ _ _ h => h)
  generalize rrOut text = o at *
  obtain ⟨es, ln, ft⟩ := o
  dsimp only at HX HPQ ⊢
  go_wp2_with fail
  refine HMR.out.mono ?_
  rintro e w3 hpost
  obtain ⟨vy, rfl, hy, hb⟩ := HPQ.out _ _ _ hpost
  have HB3 := Lib.hid (ext_trans HB1.out hb)
  have HX3 := Lib.hid (Rp.ext _ HX.out hb)
  have HY3 := Lib.hid hy
  clear hb hy hpost HB1 HX HMR HPQ
  go_wp2_with fail
  refine (eqRgt_is vx vy es w3 _ _ HX3.out HY3.out).mono ?_
  rintro e w5 ⟨rfl, n5, hw5⟩
  have hb5 : Below w3.heap.size w3 w5 := by rw [hw5]; exact below_drewN (Below.refl _ _) n5
  have HB5 := Lib.hid (ext_trans HB3.out hb5)
  clear hb5 hw5 HB3 HX3 HY3
  go_wp2_with fail
  refine (awake_any _).mono ?_
  rintro e w6 ⟨rfl, hb6⟩
  have HB6 := Lib.hid (ext_trans HB5.out hb6)
  clear hb6
  go_wp2_with fail
  go_ret
  exact ⟨rfl, HB6.out⟩
end Go.Proofs.YtgilcllfdgdofaaGreatDoor
