/-
  The law 'RightsTextsMatchSpec' walked: it returns true.
-/
import Derived.Test.YtgilcllfdgdofaaGreatDoorTxT
import Derived.Test.YtgilcllfdgdofaaGreatDoorTxU
import Derived.Test.YtgilcllfdgdofaaGreatDoorRdT
import Derived.Test.YtgilcllfdgdofaaGreatDoorEqRd
import Derived.Test.YtgilcllfdgdofaaGreatDoorAwake10
import Derived.Test.YtgilcllfdgdofaaGreatDoorOpen
import Derived.Test.YtgilcllfdgdofaaGreatDoorRows
import Derived.Stop.LaidErr
import Derived.Lib.LaidTab
import Derived.Lay
import Derived.LaidMore
import Derived.ProofKit
import Derived.OpenShut
import Derived.Stop.Joined
import Derived.SizedLaws
import Derived.Deep.DeepWitnessRowRef
namespace Go.Proofs.YtgilcllfdgdofaaGreatDoor
open Go.RowKit
set_option linter.unusedVariables false
set_option linter.unusedSimpArgs false

theorem ti_of {W : World} (h : laidMetH Tryz.prog Rows.rightsTextsMatchSpecRow.laid W) : TI W := by
  rw [MakeChecks.laidMetH_plain _ _ _ (by kernel_rfl)] at h
  have h3 := h.tail.tail
  have e : (Rows.laid_internal_strconv_uint64pow10 : DataW Unit) = Lib.tabData .u64 Lib.pow10Tab := by rfl
  rw [e] at h3
  exact Lib.tabIs_of_head (g := 3) (t := 152) (e := 124) (n := 20) (by kernel_rfl) (by kernel_rfl) Tryz.underlying152 Tryz.underlying124 (by kernel_rfl) (by kernel_rfl) h3
set_option maxRecDepth 100000 in
set_option maxHeartbeats 4000000 in
theorem txLaw_any (v0 : Value) (l : List Rgt) (w : World) (h0 : (Rp.sl rgtRp).ok w (· < w.heap.size) [v0] l) (f0 : (Rp.sl rgtRp).fits l) (hG : GInt w) (hT : TI w) :
    Calls Tryz.prog 4 #[v0] w fun e w' => e = .returned (.bool true) ∧ Below w.heap.size w w' := by
  obtain ⟨A0, cp, rfl, _⟩ := Rp.sl_open h0
  have H0 := Lib.hid h0
  have HG := Lib.hid hG
  have HT := Lib.hid hT
  clear f0 hG hT h0
  have HRD := Lib.hid (@tx_reads l)
  go_enter Tryz.func4, Tryz.ntmps4
  go_wp2_with fail
  refine (textRights_any _ l w H0.out HT.out).mono ?_
  rintro e w1 ⟨rfl, hb⟩
  have HB1 := Lib.hid hb
  have H1 := Lib.hid (Rp.ext _ H0.out hb)
  have HG1 := Lib.hid (HG.out.ext hb)
  have HT1 := Lib.hid (HT.out.ext hb)
  clear hb H0 HG HT
  have HRM := Lib.hid (refTextRights_any _ l w1 H1.out HT1.out HG1.out)
  generalize txOut l = o at *
  obtain ⟨tx, ft⟩ := o
  dsimp only at HRM HRD ⊢
  go_wp2_with fail
  refine HRM.out.mono ?_
  rintro e w2 ⟨rfl, hb⟩
  have HB2 := Lib.hid (ext_trans HB1.out hb)
  have H2 := Lib.hid (Rp.ext _ H1.out hb)
  have HG2 := Lib.hid (HG1.out.ext hb)
  clear hb HB1 H1 HG1 HT1 HRM
  go_wp2_with fail
  refine (awake_any _).mono ?_
  rintro e w3 ⟨rfl, hb⟩
  have HB3 := Lib.hid (ext_trans HB2.out hb)
  have H3 := Lib.hid (Rp.ext _ H2.out hb)
  have HG3 := Lib.hid (HG2.out.ext hb)
  clear hb HB2 H2 HG2
  by_cases hf : ft = 0
  case neg =>
    have hne : (ft != 0) = true := by simpa using hf
    clear hf
    go_wp2_with fail
    go_ret
    exact ⟨rfl, HB3.out⟩
  have HR := Lib.hid (HRD.out hf)
  subst hf
  have hpost := readRights_any tx w3 HG3.out
  have HPQ : Hid (Calls Tryz.prog 5 #[.string (bstr tx)] w3 fun e w'' => ∃ v, e = .returned (.tuple #[v, .int .i64 (0 : Int), .int .i64 0]) ∧ (Rp.sl rgtRp).ok w'' (· < w''.heap.size) [v] l ∧ Below w3.heap.size w3 w'') := Lib.hid (hpost.mono (fun e w'' h => by
    unfold RrPost at h
    have hR := HR.out
    rw [hR] at h
    exact h))
  clear hpost HR HRD
  go_wp2_with fail
  refine HPQ.out.mono ?_
  rintro e w4 ⟨vy, rfl, hy, hb⟩
  have HB4 := Lib.hid (ext_trans HB3.out hb)
  have H4 := Lib.hid (Rp.ext _ H3.out hb)
  have HY := Lib.hid hy
  clear hb hy HPQ HB3 H3 HG3
  go_wp2_with fail
  refine (eqRgt_is _ vy l w4 _ _ H4.out HY.out).mono ?_
  rintro e w5 ⟨rfl, n5, hw5⟩
  have hb5 : Below w4.heap.size w4 w5 := by rw [hw5]; exact below_drewN (Below.refl _ _) n5
  have HB5 := Lib.hid (ext_trans HB4.out hb5)
  clear hb5 hw5 HB4 H4 HY
  go_wp2_with fail
  go_ret
  exact ⟨rfl, HB5.out⟩
end Go.Proofs.YtgilcllfdgdofaaGreatDoor
