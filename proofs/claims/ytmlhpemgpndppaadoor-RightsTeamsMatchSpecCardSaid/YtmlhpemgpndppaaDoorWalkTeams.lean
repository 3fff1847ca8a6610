/-
  The law 'RightsTeamsMatchSpec' walked: it returns true.
-/
import Derived.Test.YtmlhpemgpndppaaDoorIsIn
import Derived.Test.YtmlhpemgpndppaaDoorEqS
import Derived.Test.YtmlhpemgpndppaaDoorAwake10
namespace Go.Proofs.YtmlhpemgpndppaaDoor
open Go.RowKit
set_option linter.unusedVariables false
set_option linter.unusedSimpArgs false

set_option maxRecDepth 100000 in
set_option maxHeartbeats 4000000 in
theorem teamsLaw_any (v0 : Value) (l : List Team) (v1 : Value) (who0 : ByteArray) (w : World) (h0 : (Rp.sl teamRp).ok w (· < w.heap.size) [v0] l) (f0 : (Rp.sl teamRp).fits l) (h1 : Rp.str.ok w (· < w.heap.size) [v1] who0) (f1 : Rp.str.fits who0) :
    Calls Tryd.prog 5 #[v0, v1] w fun e w' => e = .returned (.bool true) ∧ Below w.heap.size w w' := by
  obtain ⟨e1, hw1⟩ := h1
  injection e1 with e1
  subst e1
  obtain ⟨who, rfl⟩ : ∃ who, who0 = bstr who := ⟨who0.data.toList, (bstr_eq who0).symm⟩
  have hwm : who.length ≤ maxLen := hw1
  have hw : who.length ≤ 9223372036854775807 := by unfold maxLen at hwm; omega
  clear hw1 f0 f1 hwm
  have H0 := Lib.hid h0
  clear h0
  go_enter Tryd.func5, Tryd.ntmps5
  go_wp2_with fail
  refine (teamsOf_any v0 l who w H0.out hw).mono ?_
  rintro e w1 ⟨vx, rfl, hx, hb⟩
  have HB1 := Lib.hid hb
  have HX1 := Lib.hid hx
  have H1 := Lib.hid (Rp.ext _ H0.out hb)
  clear hb hx H0
  go_wp2_with fail
  refine (hTeamsOf_any v0 l who w1 H1.out hw).mono ?_
  rintro e w2 ⟨vy, rfl, hy, hb⟩
  have HB2 := Lib.hid (HB1.out.trans (hb.mono HB1.out.size))
  have HX2 := Lib.hid (Rp.ext _ HX1.out hb)
  have HY2 := Lib.hid hy
  have H2 := Lib.hid (Rp.ext _ H1.out hb)
  clear hb hy H1 HX1 HB1
  go_wp2_with fail
  refine (checkTeams_any v0 l w2 H2.out).mono ?_
  rintro e w3 ⟨rfl, hb⟩
  have HB3 := Lib.hid (HB2.out.trans (hb.mono HB2.out.size))
  have HX3 := Lib.hid (Rp.ext _ HX2.out hb)
  have HY3 := Lib.hid (Rp.ext _ HY2.out hb)
  have H3 := Lib.hid (Rp.ext _ H2.out hb)
  clear hb H2 HX2 HY2 HB2
  go_wp2_with fail
  refine (hCheckTeams_any v0 l w3 H3.out).mono ?_
  rintro e w4 ⟨rfl, hb⟩
  have HB4 := Lib.hid (HB3.out.trans (hb.mono HB3.out.size))
  have HX4 := Lib.hid (Rp.ext _ HX3.out hb)
  have HY4 := Lib.hid (Rp.ext _ HY3.out hb)
  clear hb H3 HX3 HY3 HB3
  generalize teamsFault l = tf at *
  generalize tofF l who = ff at *
  generalize (tofV l who).map bstr = ns at *
  go_wp2_with fail
  refine (eqStrs_any vx vy ns ns w4 _ _ HX4.out HY4.out).mono ?_
  rintro e w5 ⟨rfl, n, rfl⟩
  rw [decide_eq_true rfl]
  have HB5 := Lib.hid (below_drewN HB4.out n)
  generalize w4.drewN n = w5 at *
  go_wp2_with fail
  refine (awake_any _).mono ?_
  rintro e w6 ⟨rfl, hb⟩
  have HB6 := Lib.hid (HB5.out.trans (hb.mono HB5.out.size))
  clear hb
  go_wp2_with fail
  go_ret
  exact ⟨rfl, HB6.out⟩
end Go.Proofs.YtmlhpemgpndppaaDoor
