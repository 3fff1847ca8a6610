/-
  The law 'RightsShownMatchesSpec' walked: it returns true.
-/
import Derived.Test.YtmlhpemgpndppaaDoorShown3
import Derived.Test.YtmlhpemgpndppaaDoorEqS
import Derived.Test.YtmlhpemgpndppaaDoorAwake10
namespace Go.Proofs.YtmlhpemgpndppaaDoor
open Go.RowKit
set_option linter.unusedVariables false
set_option linter.unusedSimpArgs false

set_option maxRecDepth 100000 in
set_option maxHeartbeats 4000000 in
theorem shownLaw_any (v0 : Value) (t : List Team) (v1 : Value) (l : List Rgt) (v2 : Value) (s : List Shn) (v3 : Value) (at_ : Int) (w : World) (h0 : (Rp.sl teamRp).ok w (· < w.heap.size) [v0] t) (f0 : (Rp.sl teamRp).fits t) (h1 : (Rp.sl rgtRp).ok w (· < w.heap.size) [v1] l) (f1 : (Rp.sl rgtRp).fits l) (h2 : (Rp.sl shnRp).ok w (· < w.heap.size) [v2] s) (f2 : (Rp.sl shnRp).fits s) (h3 : (Rp.int .i64).ok w (· < w.heap.size) [v3] at_) (f3 : (Rp.int .i64).fits at_) :
    Calls Tryd.prog 7 #[v0, v1, v2, v3] w fun e w' => e = .returned (.bool true) ∧ Below w.heap.size w w' := by
  obtain ⟨e3, hw_at_⟩ := h3
  injection e3 with e3
  subst e3
  clear f3
  have H0 := Lib.hid h0
  clear h0 f0
  have H1 := Lib.hid h1
  clear h1 f1
  have H2 := Lib.hid h2
  clear h2 f2
  have HBA : Hid (Below w.heap.size w w) := Below.refl _ _
  go_enter Tryd.func7, Tryd.ntmps7
  go_wp2_with fail
  refine (wrongly_any v0 t v1 l v2 s w (Rp.ext _ H0.out HBA.out) (Rp.ext _ H1.out HBA.out) (Rp.ext _ H2.out HBA.out)).mono ?_
  rintro e w1 ⟨vx, rfl, hv, hb⟩
  have HB1 := Lib.hid (HBA.out.trans (hb.mono HBA.out.size))
  have HVx1 := Lib.hid hv
  clear hv
  clear hb HBA 
  go_wp2_with fail
  refine (hWrongly_any v0 t v1 l v2 s w1 (Rp.ext _ H0.out HB1.out) (Rp.ext _ H1.out HB1.out) (Rp.ext _ H2.out HB1.out)).mono ?_
  rintro e w2 ⟨vy, rfl, hv, hb⟩
  have HB2 := Lib.hid (HB1.out.trans (hb.mono HB1.out.size))
  have HVy2 := Lib.hid hv
  clear hv
  have HVx2 := Lib.hid (Rp.ext _ HVx1.out hb)
  clear HVx1
  clear hb HB1 
  go_wp2_with fail
  refine (checkShown_any v2 s w2 (Rp.ext _ H2.out HB2.out)).mono ?_
  rintro e w3 ⟨rfl, hb⟩
  have HB3 := Lib.hid (HB2.out.trans (hb.mono HB2.out.size))
  have HVx3 := Lib.hid (Rp.ext _ HVx2.out hb)
  clear HVx2
  have HVy3 := Lib.hid (Rp.ext _ HVy2.out hb)
  clear HVy2
  clear hb HB2 
  go_wp2_with fail
  refine (hCheckShown_any v2 s w3 (Rp.ext _ H2.out HB3.out)).mono ?_
  rintro e w4 ⟨rfl, hb⟩
  have HB4 := Lib.hid (HB3.out.trans (hb.mono HB3.out.size))
  have HVx4 := Lib.hid (Rp.ext _ HVx3.out hb)
  clear HVx3
  have HVy4 := Lib.hid (Rp.ext _ HVy3.out hb)
  clear HVy3
  clear hb HB3 
  generalize shownFault s = sf at *
  generalize bothF t l s = bf at *
  go_wp2_with fail
  refine (eqInt_any vx vy _ _ w4 _ _ HVx4.out HVy4.out).mono ?_
  rintro e w5 ⟨rfl, n, rfl⟩
  rw [decide_eq_true rfl]
  have HB5 := Lib.hid (below_drewN HB4.out n)
  clear HB4 HVx4 HVy4
  generalize w4.drewN n = w5 at *
  go_wp2_with fail
  refine (hidden_any v0 t v1 l v2 s at_ w5 (Rp.ext _ H0.out HB5.out) (Rp.ext _ H1.out HB5.out) (Rp.ext _ H2.out HB5.out)).mono ?_
  rintro e w6 ⟨vx2, rfl, hv, hb⟩
  have HB6 := Lib.hid (HB5.out.trans (hb.mono HB5.out.size))
  have HVx6 := Lib.hid hv
  clear hv
  clear hb HB5 
  go_wp2_with fail
  refine (hHidden_any v0 t v1 l v2 s at_ w6 (Rp.ext _ H0.out HB6.out) (Rp.ext _ H1.out HB6.out) (Rp.ext _ H2.out HB6.out)).mono ?_
  rintro e w7 ⟨vy2, rfl, hv, hb⟩
  have HB7 := Lib.hid (HB6.out.trans (hb.mono HB6.out.size))
  have HVy7 := Lib.hid hv
  clear hv
  have HVx7 := Lib.hid (Rp.ext _ HVx6.out hb)
  clear HVx6
  clear hb HB6 
  generalize hiF t l s at_ = hf at *
  go_wp2_with fail
  refine (eqInt_any vx2 vy2 _ _ w7 _ _ HVx7.out HVy7.out).mono ?_
  rintro e w8 ⟨rfl, n, rfl⟩
  rw [decide_eq_true rfl]
  have HB8 := Lib.hid (below_drewN HB7.out n)
  clear HB7 HVx7 HVy7
  generalize w7.drewN n = w8 at *
  go_wp2_with fail
  refine (awake_any _).mono ?_
  rintro e w9 ⟨rfl, hb⟩
  have HB9 := Lib.hid (HB8.out.trans (hb.mono HB8.out.size))
  clear hb
  go_wp2_with fail
  go_ret
  exact ⟨rfl, HB9.out⟩
end Go.Proofs.YtmlhpemgpndppaaDoor
