/-
  The law 'RightsIdleMatchesSpec' walked: it returns true.
-/
import Derived.Test.YtdljgjlkfihjdaaGreatDoorIdh
import Derived.Test.YtdljgjlkfihjdaaGreatDoorAsk
import Derived.Test.YtdljgjlkfihjdaaGreatDoorEqS
import Derived.Test.YtdljgjlkfihjdaaGreatDoorBelow
import Derived.Test.YtdljgjlkfihjdaaGreatDoorAwake10
import Derived.Test.YtdljgjlkfihjdaaGreatDoorOpen
namespace Go.Proofs.YtdljgjlkfihjdaaGreatDoor
open Go.RowKit
set_option linter.unusedVariables false
set_option linter.unusedSimpArgs false

/-- What counts is not idle. -/
theorem top_notIdle {t : List Team} {l : List Rgt} {c : Cap} {at_ : Int} (h1 : (rightTop t l c at_).2.2 = 0) (h2 : (rightTop t l c at_).2.1 = true) : (rightTop t l c at_).1 ∉ idleOut t l := by
  unfold rightTop at h1 h2 ⊢
  by_cases ha : askF t l [] c = 0
  case neg => rw [if_pos ha] at h1; exact absurd h1 ha
  rw [if_neg (fun e => e ha)] at h1 h2 ⊢
  split at h1
  · cases h1
  rename_i hat
  rw [if_neg hat] at h2 ⊢
  have h2 := of_decide_eq_true h2
  show max (rightIx l c at_) 0 ∉ idleOut t l
  have hrf : rightsFault t l = 0 := by
    unfold askF at ha
    split at ha
    · rename_i h3; exact absurd ha h3
    · rename_i h3; exact Decidable.not_not.1 h3
  have hcf : capF c = 0 := by
    unfold askF at ha
    rw [if_neg (fun e => e hrf), if_neg (fun e => e.1 rfl)] at ha
    exact ha
  have hk : c.key ≠ [] ∧ isPre c.key = true := by
    unfold capF at hcf
    split at hcf
    · cases hcf
    rename_i h4
    split at hcf
    · cases hcf
    rename_i h5
    exact ⟨h4, by simpa using h5⟩
  obtain ⟨i, hi⟩ : ∃ i : Nat, rightIx l c at_ = (i : Int) := ⟨(rightIx l c at_).toNat, by omega⟩
  have hrg := rightIx_range l c at_
  have hil : i < l.length := by omega
  rw [hi, Int.max_eq_left (by omega)]
  intro hm
  rw [show idleOut t l = idleIx l l.length from if_pos hrf] at hm
  obtain ⟨_, hid⟩ := (idleIx_mem l i l.length).1 hm
  rw [getD_at _ _ hil] at hid
  exact idle_never hil hi hk (idleB_is.1 hid)
set_option maxRecDepth 100000 in
set_option maxHeartbeats 4000000 in
theorem idleLaw_any (v0 : Value) (t : List Team) (v1 : Value) (l : List Rgt) (cs2 : Array Value) (c : Cap) (v3 : Value) (at_ : Int) (w : World) (h0 : (Rp.sl teamRp).ok w (· < w.heap.size) [v0] t) (f0 : (Rp.sl teamRp).fits t) (h1 : (Rp.sl rgtRp).ok w (· < w.heap.size) [v1] l) (f1 : (Rp.sl rgtRp).fits l) (h2 : capRp.ok w (· < w.heap.size) cs2.toList c) (f2 : capRp.fits c) (h3 : (Rp.int .i64).ok w (· < w.heap.size) [v3] at_) (f3 : (Rp.int .i64).fits at_) :
    Calls Tryz.prog 3 #[v0, v1, .agg cs2, v3] w fun e w' => e = .returned (.bool true) ∧ Below w.heap.size w w' := by
  obtain ⟨e2, hck0, _⟩ := cap_open h2
  obtain rfl : cs2 = #[.string (bstr c.key), .int .i64 c.time] := by apply Array.toList_inj.1; rw [e2]; rfl
  have hck : c.key.length ≤ 9223372036854775807 := hck0
  clear h2 f2 e2 hck0
  obtain ⟨e3, hw_at_⟩ := h3
  injection e3 with e3
  subst e3
  clear f3
  have H0 := Lib.hid h0
  clear h0 f0
  have H1 := Lib.hid h1
  clear h1 f1
  have hkc := Blk.new w 25 [.string (bstr c.key), .int .i64 c.time]
  have hab := (Below.refl w.heap.size w).alloc (Nat.le_refl _) (.cells #[.string (bstr c.key), .int .i64 c.time] 25)
  have HKC : Hid (Blk (w.alloc (.cells #[.string (bstr c.key), .int .i64 c.time] 25)) w.heap.size 25 [.string (bstr c.key), .int .i64 c.time]) := Lib.hid hkc
  have HBA : Hid (Below w.heap.size w (w.alloc (.cells #[.string (bstr c.key), .int .i64 c.time] 25))) := Lib.hid hab
  clear hkc hab
  go_enter Tryz.func3, Tryz.ntmps3
  go_wp2_with fail
  generalize (w.alloc (.cells #[.string (bstr c.key), .int .i64 c.time] 25)) = wA at *
  refine (idleTop_any v0 t v1 l wA (Rp.ext _ H0.out HBA.out) (Rp.ext _ H1.out HBA.out)).mono ?_
  rintro e w1 ⟨vx, rfl, hx, hb⟩
  have HB1 := Lib.hid (ext_trans HBA.out hb)
  have HK1 := Lib.hid (HKC.out.same (same_below hb) HKC.out.lt)
  have HX1 := Lib.hid hx
  clear hb hx HBA HKC
  have HMR := Lib.hid (hIdleTop_any v0 t v1 l w1 (Rp.ext _ H0.out HB1.out) (Rp.ext _ H1.out HB1.out))
  have HPQ : Hid (∀ (w' : World) (e : Ending) (w'' : World), IdlePost t l w' e w'' → ∃ v, e = .returned (.tuple #[v, .int .i64 (rightsFault t l)]) ∧ (Rp.sl (Rp.int .i64)).ok w'' (· < w''.heap.size) [v] (idleOut t l) ∧ Below w'.heap.size w' w'') := Lib.hid (fun _ _ _ h => h)
  have HNI := Lib.hid (@top_notIdle t l c at_)
  generalize idleOut t l = O at *
  generalize rightsFault t l = ft at *
  go_wp2_with fail
  refine HMR.out.mono ?_
  rintro e w2 hpost
  obtain ⟨vy, rfl, hy, hb⟩ := HPQ.out _ _ _ hpost
  have HB2 := Lib.hid (ext_trans HB1.out hb)
  have HK2 := Lib.hid (HK1.out.same (same_below hb) HK1.out.lt)
  have HX2 := Lib.hid (Rp.ext _ HX1.out hb)
  have HY2 := Lib.hid hy
  clear hb hy hpost HB1 HK1 HX1 HMR HPQ
  go_wp2_with fail
  refine (eqInt_any vx vy O O w2 _ _ HX2.out HY2.out).mono ?_
  rintro e w3 ⟨rfl, n3, hw3⟩
  rw [decide_eq_true rfl]
  have hb : Below w2.heap.size w2 w3 := by rw [hw3]; exact below_drewN (Below.refl _ _) n3
  have HB3 := Lib.hid (ext_trans HB2.out hb)
  have HK3 := Lib.hid (HK2.out.same (same_below hb) HK2.out.lt)
  have HX3 := Lib.hid (Rp.ext _ HX2.out hb)
  clear hb hw3 HB2 HK2 HX2 HY2
  go_wp2_with fail
  refine (awake_any _).mono ?_
  rintro e w4 ⟨rfl, hb⟩
  have HB4 := Lib.hid (ext_trans HB3.out hb)
  have HK4 := Lib.hid (HK3.out.same (same_below hb) HK3.out.lt)
  have HX4 := Lib.hid (Rp.ext _ HX3.out hb)
  clear hb HB3 HK3 HX3
  by_cases hf : ft = 0
  case neg =>
    have hne : (ft != 0) = true := by simpa using hf
    clear hf
    go_wp2_with fail
    go_ret
    exact ⟨rfl, HB4.out⟩
  subst hf
  have c0 : w4.cell? ⟨w.heap.size, 0, none⟩ = some (.string (bstr c.key)) := HK4.out.cell 0
  have c1 : w4.cell? ⟨w.heap.size, 1, none⟩ = some (.int .i64 c.time) := HK4.out.cell 1
  go_wp2_with fail
  clear c0 c1
  refine (rightTop_any v0 t v1 l c at_ w4 (Rp.ext _ H0.out HB4.out) (Rp.ext _ H1.out HB4.out) hck).mono ?_
  rintro e w5 ⟨rfl, hb⟩
  have HB5 := Lib.hid (ext_trans HB4.out hb)
  have HX5 := Lib.hid (Rp.ext _ HX4.out hb)
  clear hb HB4 HX4 HK4
  generalize rightTop t l c at_ = rt at *
  obtain ⟨r1, r2, r3⟩ := rt
  have HNI2 : Hid (r3 = 0 → r2 = true → r1 ∉ O) := Lib.hid HNI.out
  clear HNI
  by_cases h3 : r3 = 0
  case neg =>
    have hne : (r3 != 0) = true := by simpa using h3
    clear h3
    go_wp2_with fail
    go_ret
    exact ⟨rfl, HB5.out⟩
  subst h3
  cases r2 with
  | false =>
    go_wp2_with fail
    go_ret
    exact ⟨rfl, HB5.out⟩
  | true =>
    have hno := HNI2.out rfl rfl
    have HCO := Lib.hid (containsInt_any vx O r1 w5 _ HX5.out)
    rw [decide_eq_false hno] at HCO
    clear hno HNI2
    go_wp2_with fail
    refine HCO.out.mono ?_
    rintro e w6 ⟨rfl, hw⟩
    subst hw
    go_wp2_with fail
    go_ret
    exact ⟨rfl, HB5.out⟩
end Go.Proofs.YtdljgjlkfihjdaaGreatDoor
