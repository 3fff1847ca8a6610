/-
  The law 'CareVotesMatchSpec' walked: it returns true.
-/
import Derived.Test.YtnnoolemmnailaaDoorTypesV
import Derived.Test.YtnnoolemmnailaaDoorVTop
import Derived.Test.YtnnoolemmnailaaDoorEqS
import Derived.Test.YtnnoolemmnailaaDoorAwake11
namespace Go.Proofs.YtnnoolemmnailaaDoor
open Go.RowKit
set_option linter.unusedVariables false

set_option maxRecDepth 100000 in
set_option maxHeartbeats 1000000 in
theorem votesLaw_any (v0 : Value) (s : List Site) (v1 : Value) (l : List Held) (w : World) (h0 : (Rp.sl siteRp).ok w (· < w.heap.size) [v0] s) (f0 : (Rp.sl siteRp).fits s)
    (h1 : (Rp.sl heldRp).ok w (· < w.heap.size) [v1] l) (f1 : (Rp.sl heldRp).fits l) :
    Calls Tryd.prog 8 #[v0, v1] w fun e w' => e = .returned (.bool true) ∧ Below w.heap.size w w' := by
  have H0 := Lib.hid h0
  have H1 := Lib.hid h1
  clear f0 f1 h0 h1
  go_enter Tryd.func8, Tryd.ntmps8
  go_wp2_with fail
  refine (votesTop_any v0 s v1 l w H0.out H1.out).mono ?_
  rintro e w1 ⟨x, rfl, hx, hb1⟩
  have HX1 := Lib.hid hx
  have H01 := Lib.hid (Rp.ext _ H0.out hb1)
  have H11 := Lib.hid (Rp.ext _ H1.out hb1)
  have HB1 := Lib.hid hb1
  clear hb1 hx H0 H1
  go_wp2_with fail
  refine (votesTopRef_any v0 s v1 l w1 H01.out H11.out).mono ?_
  rintro e w2 ⟨y, rfl, hy, hb2⟩
  have HX2 := Lib.hid (Rp.ext _ HX1.out hb2)
  have HY2 := Lib.hid hy
  have H02 := Lib.hid (Rp.ext _ H01.out hb2)
  have H12 := Lib.hid (Rp.ext _ H11.out hb2)
  have HB2 := Lib.hid (ext_trans HB1.out hb2)
  clear hb2 hy H01 H11 HX1 HB1
  go_wp2_with fail
  refine (checkSites_any v0 s w2 H02.out).mono ?_
  rintro e w3 ⟨rfl, hb3⟩
  have HX3 := Lib.hid (Rp.ext _ HX2.out hb3)
  have HY3 := Lib.hid (Rp.ext _ HY2.out hb3)
  have H03 := Lib.hid (Rp.ext _ H02.out hb3)
  have H13 := Lib.hid (Rp.ext _ H12.out hb3)
  have HB3 := Lib.hid (ext_trans HB2.out hb3)
  clear hb3 HY2 H02 H12 HX2 HB2
  go_wp2_with fail
  refine (refCheckSites_any v0 s w3 H03.out).mono ?_
  rintro e w4 ⟨rfl, hb4⟩
  have HX4 := Lib.hid (Rp.ext _ HX3.out hb4)
  have HY4 := Lib.hid (Rp.ext _ HY3.out hb4)
  have H04 := Lib.hid (Rp.ext _ H03.out hb4)
  have H14 := Lib.hid (Rp.ext _ H13.out hb4)
  have HB4 := Lib.hid (ext_trans HB3.out hb4)
  clear hb4 HY3 H03 H13 HX3 HB3
  generalize sitesFault s = sf
  go_wp2_with fail
  refine (checkCopies_any v0 s v1 l w4 H04.out H14.out).mono ?_
  rintro e w5 ⟨rfl, hb5⟩
  have HX5 := Lib.hid (Rp.ext _ HX4.out hb5)
  have HY5 := Lib.hid (Rp.ext _ HY4.out hb5)
  have H05 := Lib.hid (Rp.ext _ H04.out hb5)
  have H15 := Lib.hid (Rp.ext _ H14.out hb5)
  have HB5 := Lib.hid (ext_trans HB4.out hb5)
  clear hb5 HY4 H04 H14 HX4 HB4
  go_wp2_with fail
  refine (refCheckCopies_any v0 s v1 l w5 H05.out H15.out).mono ?_
  rintro e w6 ⟨rfl, hb6⟩
  have HX6 := Lib.hid (Rp.ext _ HX5.out hb6)
  have HY6 := Lib.hid (Rp.ext _ HY5.out hb6)
  have H06 := Lib.hid (Rp.ext _ H05.out hb6)
  have H16 := Lib.hid (Rp.ext _ H15.out hb6)
  have HB6 := Lib.hid (ext_trans HB5.out hb6)
  clear hb6 HY5 H05 H15 HX5 HB5
  obtain ⟨cf, hcf⟩ : ∃ cf, copiesFault s l = cf := ⟨_, rfl⟩
  have HCF := Lib.hid hcf
  rw [hcf]
  clear hcf
  go_wp2_with fail
  refine (sameVotes_any x y _ w6 _ _ HX6.out HY6.out).mono ?_
  rintro e w7 ⟨rfl, hd7⟩
  have HB7 := Lib.hid (hd7.below HB6.out)
  have hb7 : Below w6.heap.size w6 w7 := hd7.below (Below.refl _ _)
  have H07 := Lib.hid (Rp.ext _ H06.out hb7)
  have H17 := Lib.hid (Rp.ext _ H16.out hb7)
  clear hb7 hd7 H06 H16 HX6 HY6 HB6
  go_wp2_with fail
  refine (weakest_any v0 s v1 l w7 H07.out H17.out).mono ?_
  rintro e w8 ⟨p, rfl, hp, hb8⟩
  rw [HCF.out]
  have HP8 := Lib.hid hp
  have H08 := Lib.hid (Rp.ext _ H07.out hb8)
  have H18 := Lib.hid (Rp.ext _ H17.out hb8)
  have HB8 := Lib.hid (ext_trans HB7.out hb8)
  clear hb8 hp H07 H17 HB7
  go_wp2_with fail
  refine (weakestRef_any v0 s v1 l w8 H08.out H18.out).mono ?_
  rintro e w9 ⟨q, rfl, hq, hb9⟩
  rw [HCF.out]
  have HQ9 := Lib.hid hq
  have HP9 := Lib.hid (Rp.ext _ HP8.out hb9)
  have HB9 := Lib.hid (ext_trans HB8.out hb9)
  clear hb9 hq H08 H18 HB8 HP8
  generalize weakTop s l = k at *
  go_wp2_with fail
  refine (eqStrs_is _ _ _ w9 _ _ HP9.out HQ9.out).mono ?_
  rintro e w10 ⟨rfl, n, rfl⟩
  have HB10 := Lib.hid (below_drewN HB9.out n)
  go_wp2_with fail
  refine (awake_any _).mono ?_
  rintro e w11 ⟨rfl, hb11⟩
  have HB11 := Lib.hid (ext_trans HB10.out hb11)
  clear hb11
  go_wp2_with fail
  go_ret
  exact ⟨rfl, HB11.out⟩
end Go.Proofs.YtnnoolemmnailaaDoor
