/-
  The law 'CareChallengesMatchSpec' walked: it returns true.
-/
import Derived.Test.YtnnoolemmnailaaDoorTypesC
import Derived.Test.YtnnoolemmnailaaDoorChal
import Derived.Test.YtnnoolemmnailaaDoorAns
import Derived.Test.YtnnoolemmnailaaDoorEqS
import Derived.Test.YtnnoolemmnailaaDoorAwake11
namespace Go.Proofs.YtnnoolemmnailaaDoor
open Go.RowKit
set_option linter.unusedVariables false

set_option maxRecDepth 100000 in
set_option maxHeartbeats 1000000 in
theorem chalLaw_any (v0 : Value) (s0 : ByteArray) (v1 : Value) (b : List UInt8) (v2 : Value) (s2 : ByteArray) (v3 : Value) (l : List Rep) (w : World) (h0 : Rp.str.ok w (· < w.heap.size) [v0] s0) (f0 : Rp.str.fits s0)
    (h1 : (Rp.sl Rp.u8).ok w (· < w.heap.size) [v1] b) (f1 : (Rp.sl Rp.u8).fits b) (h2 : Rp.str.ok w (· < w.heap.size) [v2] s2) (f2 : Rp.str.fits s2) (h3 : (Rp.sl repRp).ok w (· < w.heap.size) [v3] l) (f3 : (Rp.sl repRp).fits l) :
    Calls Tryd.prog 6 #[v0, v1, v2, v3] w fun e w' => e = .returned (.bool true) ∧ Below w.heap.size w w' := by
  obtain ⟨e0, z0⟩ := h0
  injection e0 with e0
  subst e0
  obtain ⟨e2, z2⟩ := h2
  injection e2 with e2
  subst e2
  obtain ⟨nonce, rfl⟩ : ∃ a, s0 = bstr a := ⟨_, (bstr_eq s0).symm⟩
  obtain ⟨right, rfl⟩ : ∃ a, s2 = bstr a := ⟨_, (bstr_eq s2).symm⟩
  rw [bstr_size] at z0 z2
  have y0 : nonce.length ≤ 9223372036854775807 := by unfold maxLen at z0; omega
  have y2 : right.length ≤ 9223372036854775807 := by unfold maxLen at z2; omega
  have H1 := Lib.hid h1
  have H3 := Lib.hid h3
  clear f0 f1 f2 f3 h1 h3
  go_enter Tryd.func6, Tryd.ntmps6
  go_wp2_with fail
  refine (challenge_any nonce v1 b w y0 H1.out).mono ?_
  rintro e w1 ⟨rfl, hb1⟩
  have H1b := Lib.hid (Rp.ext _ H1.out hb1)
  have H3b := Lib.hid (Rp.ext _ H3.out hb1)
  have HB1 := Lib.hid hb1
  clear hb1 H1 H3
  go_wp2_with fail
  refine (refChallenge_any nonce v1 b w1 y0 H1b.out).mono ?_
  rintro e w2 ⟨rfl, hb2⟩
  have H3c := Lib.hid (Rp.ext _ H3b.out hb2)
  have HB2 := Lib.hid (ext_trans HB1.out hb2)
  clear hb2 H1b H3b HB1
  generalize chalStr nonce b = s
  generalize chalFault nonce b = f
  go_wp2_with fail
  refine (answers_any nonce right v3 l w2 y0 y2 H3c.out).mono ?_
  rintro e w3 ⟨p, rfl, hp, hb3⟩
  have HP := Lib.hid hp
  have H3d := Lib.hid (Rp.ext _ H3c.out hb3)
  have HB3 := Lib.hid (ext_trans HB2.out hb3)
  clear hb3 hp H3c HB2
  go_wp2_with fail
  refine (refAnswers_any nonce right v3 l w3 y0 y2 H3d.out).mono ?_
  rintro e w4 ⟨q, rfl, hq, hb4⟩
  have HQ := Lib.hid hq
  have HP4 := Lib.hid (Rp.ext _ HP.out hb4)
  have HB4 := Lib.hid (ext_trans HB3.out hb4)
  clear hb4 hq HP HB3
  generalize ansFault nonce right l = g
  go_wp2_with fail
  refine (eqStrs_any _ _ _ _ w4 _ _ HP4.out HQ.out).mono ?_
  rintro e w5 ⟨rfl, n, rfl⟩
  rw [decide_eq_true rfl]
  have HB5 := Lib.hid (below_drewN HB4.out n)
  go_wp2_with fail
  refine (awake_any _).mono ?_
  rintro e w6 ⟨rfl, hb6⟩
  have HB6 := Lib.hid (ext_trans HB5.out hb6)
  clear hb6
  go_wp2_with fail
  go_ret
  exact ⟨rfl, HB6.out⟩
end Go.Proofs.YtnnoolemmnailaaDoor
