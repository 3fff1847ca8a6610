/-
  The law 'AlikeAppliesMatchSpec' walked: it returns true where the lines of the changes are not too long together.
-/
import Derived.Test.YtofahmdjhpbecaaDig
import Derived.Test.YtofahmdjhpbecaaApplied
import Derived.Test.YtofahmdjhpbecaaRefApplied
import Derived.Test.YtofahmdjhpbecaaTypes4
namespace Go.Proofs.Ytofahmdjhpbecaa
open Go.RowKit
set_option linter.unusedVariables false

set_option maxRecDepth 100000 in
set_option maxHeartbeats 1000000 in
theorem appLaw_any (v0 : Value) (s0 : ByteArray) (v1 : Value) (l : List Ch) (w : World) (h0 : Rp.str.ok w (· < w.heap.size) [v0] s0) (h1 : (Rp.sl chRp).ok w (· < w.heap.size) [v1] l)
    (m2 : (keepL 2 l).flatten.length ≤ 140737488355328) (m3 : (keepL 3 l).flatten.length ≤ 140737488355328) :
    Calls Try.prog 12 #[v0, v1] w fun e w' => e = .returned (.bool true) ∧ Below w.heap.size w w' := by
  obtain ⟨e0, z0⟩ := h0
  injection e0 with e0
  subst e0
  obtain ⟨a, rfl⟩ : ∃ a, s0 = bstr a := ⟨_, (bstr_eq s0).symm⟩
  rw [bstr_size] at z0
  have H1 := Lib.hid h1
  have M2 := Lib.hid m2
  have M3 := Lib.hid m3
  clear h1 m2 m3
  go_enter Try.func12, Try.ntmps12
  go_wp2_with fail
  refine (applied_any a v1 l w z0 H1.out M2.out).mono ?_
  rintro e w1 ⟨rfl, hb1⟩
  have H2 := Lib.hid (Rp.ext _ H1.out hb1)
  have HB1 := Lib.hid hb1
  clear hb1
  go_wp2_with fail
  refine (refApplied_any a v1 l w1 z0 H2.out M2.out).mono ?_
  rintro e w2 ⟨rfl, hb2⟩
  have H3 := Lib.hid (Rp.ext _ H2.out hb2)
  have HB2 := Lib.hid (ext_trans HB1.out hb2)
  clear hb2
  generalize madeStr a l 3 2 = s
  generalize madeFault a l 3 2 = f
  go_wp2_with fail
  refine (undone_any a v1 l w2 z0 H3.out M3.out).mono ?_
  rintro e w3 ⟨rfl, hb3⟩
  have H4 := Lib.hid (Rp.ext _ H3.out hb3)
  have HB3 := Lib.hid (ext_trans HB2.out hb3)
  clear hb3
  go_wp2_with fail
  refine (refUndone_any a v1 l w3 z0 H4.out M3.out).mono ?_
  rintro e w4 ⟨rfl, hb4⟩
  have HB4 := Lib.hid (ext_trans HB3.out hb4)
  clear hb4
  generalize madeStr a l 2 3 = s2
  generalize madeFault a l 2 3 = f2
  go_wp2_with fail
  refine (awake_any _).mono ?_
  rintro e w5 ⟨rfl, hb5⟩
  have HB5 := Lib.hid (ext_trans HB4.out hb5)
  clear hb5
  go_wp2_with fail
  go_ret
  exact ⟨rfl, HB5.out⟩
theorem appLawB_any (v0 : Value) (s0 : ByteArray) (v1 : Value) (l : List Ch) (w : World) (h0 : Rp.str.ok w (· < w.heap.size) [v0] s0) (f0 : Rp.str.fits s0) (h1 : (Rp.sl chRp).ok w (· < w.heap.size) [v1] l) (f1 : (Rp.sl chRp).fits l) (b1 : (l.map chBulk).sum ≤ 1048576) :
    Calls Try.prog 12 #[v0, v1] w fun e w' => e = .returned (.bool true) ∧ Below w.heap.size w w' :=
  appLaw_any v0 s0 v1 l w h0 h1 (by have := keepL_bulk 2 l; omega) (by have := keepL_bulk 3 l; omega)
end Go.Proofs.Ytofahmdjhpbecaa
