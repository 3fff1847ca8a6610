/-
  The law 'CareAuditsMatchSpec' walked: it returns true.
-/
import Derived.Test.YtbafnemcdhdagaaDoorProg
import Derived.Test.YtbafnemcdhdagaaDoorOpen
import Derived.Test.YtbafnemcdhdagaaDoorRefAudits
import Derived.Test.YtbafnemcdhdagaaDoorEqS
import Derived.Test.YtbafnemcdhdagaaDoorAwake11
namespace Go.Proofs.YtbafnemcdhdagaaDoor
open Go.RowKit
set_option linter.unusedVariables false

theorem opens_aud : Opens Tryd.prog 103 audRp := by
  refine opens_via _ (fun (p : ByteArray × Int × Bool) => ⟨p.1.data.toList, p.2.1, p.2.2⟩) (fun p => by rw [bstr_eq]) ?_
  refine opens_struct Tryd.underlying103 (by kernel_rfl) ?_
  refine opensF_cons (by rfl) (by kernel_rfl) (opens_str Tryd.underlying9) ?_
  refine opensF_cons (by rfl) (by kernel_rfl) (opens_int Tryd.underlying3) ?_
  exact opensF_one (by rfl) (by kernel_rfl) (opens_bool Tryd.underlying4)
theorem opens_auds : Opens Tryd.prog 49 (Rp.sl audRp) := opens_sl Tryd.underlying49 (by kernel_rfl) (by decide) (of_decide_eq_true (by kernel_rfl)) opens_aud

set_option maxRecDepth 100000 in
set_option maxHeartbeats 1000000 in
theorem audsLaw_any (v0 : Value) (l : List Aud) (v1 : Value) (ev : Int) (v2 : Value) (most : Int) (v3 : Value) (dy : Int) (w : World) (h0 : (Rp.sl audRp).ok w (· < w.heap.size) [v0] l) (f0 : (Rp.sl audRp).fits l)
    (h1 : (Rp.int .i64).ok w (· < w.heap.size) [v1] ev) (f1 : (Rp.int .i64).fits ev) (h2 : (Rp.int .i64).ok w (· < w.heap.size) [v2] most) (f2 : (Rp.int .i64).fits most) (h3 : (Rp.int .i64).ok w (· < w.heap.size) [v3] dy) (f3 : (Rp.int .i64).fits dy) :
    Calls Tryd.prog 5 #[v0, v1, v2, v3] w fun e w' => e = .returned (.bool true) ∧ Below w.heap.size w w' := by
  obtain ⟨e1, _⟩ := h1
  injection e1 with e1
  subst e1
  obtain ⟨e2, _⟩ := h2
  injection e2 with e2
  subst e2
  obtain ⟨e3, _⟩ := h3
  injection e3 with e3
  subst e3
  have H0 := Lib.hid h0
  clear f0 f1 f2 f3 h0
  go_enter Tryd.func5, Tryd.ntmps5
  go_wp2_with fail
  refine (audits_any v0 l ev most dy w H0.out).mono ?_
  rintro e w1 ⟨vx, xs, rfl, hx, hb1, hxn, hxd⟩
  have H0b := Lib.hid (Rp.ext _ H0.out hb1)
  have HB1 := Lib.hid hb1
  have HX := Lib.hid hx
  have HXN := Lib.hid hxn
  have HXD := Lib.hid hxd
  clear hb1 hx hxn hxd H0
  go_wp2_with fail
  refine (refAudits_any v0 l ev most dy w1 H0b.out).mono ?_
  rintro e w2 ⟨vy, ys, rfl, hy, hb2, hyn, hyd⟩
  have HXY : Hid (xs = ys) := Lib.hid (by
    by_cases hf : audFault l ev most dy = 0
    · obtain ⟨o1, d1, rfl⟩ := HXD.out hf
      obtain ⟨o2, d2, rfl⟩ := hyd hf
      rw [due_unique d1 d2]
    · rw [HXN.out hf, hyn hf])
  have HP := Lib.hid (Rp.ext _ HX.out hb2)
  have HQ := Lib.hid hy
  have HB2 := Lib.hid (ext_trans HB1.out hb2)
  clear hb2 hy hyn hyd HX HXN HXD H0b HB1
  generalize audFault l ev most dy = g
  go_wp2_with fail
  refine (eqStrs_any _ _ _ _ w2 _ _ HP.out HQ.out).mono ?_
  rintro e w5 ⟨rfl, n, rfl⟩
  rw [decide_eq_true HXY.out]
  have HB5 := Lib.hid (below_drewN HB2.out n)
  go_wp2_with fail
  refine (awake_any _).mono ?_
  rintro e w6 ⟨rfl, hb6⟩
  have HB6 := Lib.hid (ext_trans HB5.out hb6)
  clear hb6
  go_wp2_with fail
  go_ret
  exact ⟨rfl, HB6.out⟩
end Go.Proofs.YtbafnemcdhdagaaDoor
