/-
  slices' stable sort at 'api.Site', over any program in which its functions lie: swapRange, rotate, symMerge.
-/
import Derived.Test.YtdeeiifcjbmmiaaDoorProg
import Derived.Test.YtdeeiifcjbmmiaaDoorSymM
import Derived.Shelf.SlSortCmp.KitK
import Derived.Sort.WalkB2
import Derived.Sort.WalkB12
import Derived.Deep.LoopGhost
import Derived.Lib.Hide
namespace Go.Proofs.YtdeeiifcjbmmiaaDoor
open Go.Shelf Go.RowKit Go.Lib Go.Sort
set_option linter.unusedVariables false
set_option linter.unusedSimpArgs false

structure StabSiteL (P : Program) : Prop where
  mixed : P.follows .mixedOrders = true
  fswapRange : P.funcs[92]? = some Tryd.f92
  frotate : P.funcs[79]? = some Tryd.f79
  fsymMerge : P.funcs[61]? = some Tryd.f61
  fstable : P.funcs[43]? = some Tryd.f43
  t0 : P.underlying 0 = some (TypeDesc.tuple #[])
  a0 : ∀ w, (isAgg 0).run P w = .ok false w
  z0 : ∀ w, (Go.sizeOf 0).run P w = .ok 1 w
  v0 : ∀ w, (zeroValue 0).run P w = .ok (Value.tuple #[]) w
  t3 : P.underlying 3 = some (TypeDesc.int IntKind.i64)
  a3 : ∀ w, (isAgg 3).run P w = .ok false w
  z3 : ∀ w, (Go.sizeOf 3).run P w = .ok 1 w
  v3 : ∀ w, (zeroValue 3).run P w = .ok (Value.int IntKind.i64 0) w
  t4 : P.underlying 4 = some (TypeDesc.bool)
  a4 : ∀ w, (isAgg 4).run P w = .ok false w
  z4 : ∀ w, (Go.sizeOf 4).run P w = .ok 1 w
  v4 : ∀ w, (zeroValue 4).run P w = .ok (Value.bool false) w
  tU : P.underlying 82 = some (TypeDesc.int IntKind.u64)
  aU : ∀ w, (isAgg 82).run P w = .ok false w
  zU : ∀ w, (Go.sizeOf 82).run P w = .ok 1 w
  vU : ∀ w, (zeroValue 82).run P w = .ok (Value.int IntKind.u64 0) w
  tS : P.underlying 22 = some (TypeDesc.slice 39)
  aS : ∀ w, (isAgg 22).run P w = .ok false w
  zS : ∀ w, (Go.sizeOf 22).run P w = .ok 1 w
  vS : ∀ w, (zeroValue 22).run P w = .ok (Value.slice none 0 0) w
  tF : P.underlying 62 = some (TypeDesc.func #[39, 39] #[3] false)
  aF : ∀ w, (isAgg 62).run P w = .ok false w
  zF : ∀ w, (Go.sizeOf 62).run P w = .ok 1 w
  vF : ∀ w, (zeroValue 62).run P w = .ok (Value.nilFunc) w
theorem stabsiteL : StabSiteL Tryd.prog where
  mixed := by kernel_rfl
  fswapRange := Tryd.func92
  frotate := Tryd.func79
  fsymMerge := Tryd.func61
  fstable := Tryd.func43
  t0 := Tryd.underlying0
  a0 := Tryd.isAgg0
  z0 := Tryd.sizeOf0
  v0 := Tryd.zeroValue0
  t3 := Tryd.underlying3
  a3 := Tryd.isAgg3
  z3 := Tryd.sizeOf3
  v3 := Tryd.zeroValue3
  t4 := Tryd.underlying4
  a4 := Tryd.isAgg4
  z4 := Tryd.sizeOf4
  v4 := Tryd.zeroValue4
  tU := Tryd.underlying82
  aU := Tryd.isAgg82
  zU := Tryd.sizeOf82
  vU := Tryd.zeroValue82
  tS := Tryd.underlying22
  aS := Tryd.isAgg22
  zS := Tryd.sizeOf22
  vS := Tryd.zeroValue22
  tF := Tryd.underlying62
  aF := Tryd.isAgg62
  zF := Tryd.sizeOf62
  vF := Tryd.zeroValue62
section
variable {P : Program} {α : Type} [Inhabited α] {enc : α → List Value} {k : Nat} {w0 : World} {blk off : Nat} {d0 : Array α}
set_option maxHeartbeats 4000000 in
set_option maxRecDepth 1000000 in
theorem StabSiteL.swapRange (L : StabSiteL P) (aE : ∀ w, (isAgg 39).run P w = .ok true w) (zE : ∀ w, (Go.sizeOf 39).run P w = .ok k w) (g : Nat) (cb : Array Value) (cap x y n : Nat) (d : Array α) (w : World)
    (R : RowK enc k w0 blk off d0) (hs : d0.size = d.size) (S : SWK enc k w0 blk off d w) (h1 : x + n ≤ y) (h2 : y + n ≤ d.size) (hsz : d.size < 4611686018427387904) :
    Calls P 92 #[.slice (some ⟨blk, off, none⟩) d.size cap, .int .i64 x, .int .i64 y, .int .i64 n, .func (.func g) #[] cb] w fun e w' => e = .returned (.tuple #[]) ∧ SWK enc k w0 blk off (swapR d x y n) w' := by
  have mixed := L.mixed; have t0 := L.t0; have a0 := L.a0; have z0 := L.z0; have v0 := L.v0; have t3 := L.t3; have a3 := L.a3; have z3 := L.z3; have v3 := L.v3; have t4 := L.t4; have a4 := L.a4; have z4 := L.z4; have v4 := L.v4; have tU := L.tU; have aU := L.aU; have zU := L.zU; have vU := L.vU; have tS := L.tS; have aS := L.aS; have zS := L.zS; have vS := L.vS; have tF := L.tF; have aF := L.aF; have zF := L.zF; have vF := L.vF
  have u0 := run_underlying L.t0; have u3 := run_underlying L.t3; have u4 := run_underlying L.t4; have uU := run_underlying L.tU; have uS := run_underlying L.tS; have uF := run_underlying L.tF

  have eswapRange : ∀ args w, (callFunc 92 args).run P w = .ok (.enter 92 args) w := enters_of L.fswapRange (by kernel_rfl) rfl; have erotate : ∀ args w, (callFunc 79 args).run P w = .ok (.enter 79 args) w := enters_of L.frotate (by kernel_rfl) rfl; have esymMerge : ∀ args w, (callFunc 61 args).run P w = .ok (.enter 61 args) w := enters_of L.fsymMerge (by kernel_rfl) rfl; have estable : ∀ args w, (callFunc 43 args).run P w = .ok (.enter 43 args) w := enters_of L.fstable (by kernel_rfl) rfl
  have S0 := Lib.hid S
  clear S
  go_enter L.fswapRange, Tryd.ntmps92
  go_wp2_with fail
  go_loopw [10] (fun vi wr => ∃ i : Nat, vi = .int .i64 i ∧ i ≤ n ∧ Hid (SWK enc k w0 blk off (swapR d x y i) wr)) (fun vi _ => n - (intOf vi).toNat)
  case atStart => exact ⟨0, rfl, Nat.zero_le _, S0⟩
  case round =>
    clear S0
    obtain ⟨i, rfl, hin, S1⟩ := hrel
    by_cases hlt : i < n
    · have hsk := size_swapR d x y i
      generalize hdk : swapR d x y i = dk at S1 hsk
      have HDK := Lib.hid hdk
      clear hdk
      go_wp2_with fail
      have eai : ((x : Int) + (i : Int) : Int).toNat = x + i := by omega
      have pai : (0 : Int) ≤ ((x : Int) + (i : Int) : Int) := by omega
      have bai : ((x : Int) + (i : Int) : Int) < (d.size : Int) := by omega
      have rai : IntKind.i64.wrap ((x : Int) + (i : Int) : Int) = ((x : Int) + (i : Int) : Int) := by rw [IntKind.wrap_i64]; omega
      have eaj : ((y : Int) + (i : Int) : Int).toNat = y + i := by omega
      have paj : (0 : Int) ≤ ((y : Int) + (i : Int) : Int) := by omega
      have baj : ((y : Int) + (i : Int) : Int) < (d.size : Int) := by omega
      have raj : IntKind.i64.wrap ((y : Int) + (i : Int) : Int) = ((y : Int) + (i : Int) : Int) := by rw [IntKind.wrap_i64]; omega
      have S2 := Lib.hid (S1.out.swapped R (x + i) (y + i) (by omega) (by omega))
      have la := S1.out.ld1 R (by omega) P (x + i) (by omega)
      have lb := S1.out.ld1 R (by omega) P (y + i) (by omega)
      have sa := S1.out.st1 R (by omega) P (x + i) (by omega) dk[y + i]!
      have sb := S1.out.st2 R (by omega) P (x + i) (y + i) (by omega) (by omega) dk[y + i]! dk[x + i]!
      have na : (enc dk[x + i]!).length = k := R.hk _
      have nb : (enc dk[y + i]!).length = k := R.hk _
      generalize enc dk[x + i]! = cI at S2 la sb na
      generalize enc dk[y + i]! = cJ at S2 lb sa sb nb
      clear S1
      go_wp2_with fail
      go_big_region_o
      clear la lb sa sb
      generalize (wr.drew.setCells blk (off + (x + i) * k) cJ).setCells blk (off + (y + i) * k) cI = w2 at S2 ⊢
      go_wp2_with fail
      go_roundw
      case rel => exact ⟨i + 1, by go_num, by omega, by rw [swapR, HDK.out]; exact S2⟩
      case measure => simp [intOf]; omega
    · obtain rfl : i = n := by omega
      go_wp2_with fail
      go_end0
      exact ⟨rfl, S1.out⟩
set_option maxHeartbeats 4000000 in
set_option maxRecDepth 1000000 in
theorem StabSiteL.rotate (L : StabSiteL P) (aE : ∀ w, (isAgg 39).run P w = .ok true w) (zE : ∀ w, (Go.sizeOf 39).run P w = .ok k w) (g : Nat) (cb : Array Value) (cap a m b : Nat) (d : Array α) (w : World)
    (R : RowK enc k w0 blk off d0) (hs : d0.size = d.size) (S : SWK enc k w0 blk off d w) (h1 : a < m) (h2 : m < b) (h3 : b ≤ d.size) (hsz : d.size < 4611686018427387904) :
    Calls P 79 #[.slice (some ⟨blk, off, none⟩) d.size cap, .int .i64 a, .int .i64 m, .int .i64 b, .func (.func g) #[] cb] w fun e w' => e = .returned (.tuple #[]) ∧ SWK enc k w0 blk off (rotS d a m b) w' := by
  have mixed := L.mixed; have t0 := L.t0; have a0 := L.a0; have z0 := L.z0; have v0 := L.v0; have t3 := L.t3; have a3 := L.a3; have z3 := L.z3; have v3 := L.v3; have t4 := L.t4; have a4 := L.a4; have z4 := L.z4; have v4 := L.v4; have tU := L.tU; have aU := L.aU; have zU := L.zU; have vU := L.vU; have tS := L.tS; have aS := L.aS; have zS := L.zS; have vS := L.vS; have tF := L.tF; have aF := L.aF; have zF := L.zF; have vF := L.vF
  have u0 := run_underlying L.t0; have u3 := run_underlying L.t3; have u4 := run_underlying L.t4; have uU := run_underlying L.tU; have uS := run_underlying L.tS; have uF := run_underlying L.tF

  have eswapRange : ∀ args w, (callFunc 92 args).run P w = .ok (.enter 92 args) w := enters_of L.fswapRange (by kernel_rfl) rfl; have erotate : ∀ args w, (callFunc 79 args).run P w = .ok (.enter 79 args) w := enters_of L.frotate (by kernel_rfl) rfl; have esymMerge : ∀ args w, (callFunc 61 args).run P w = .ok (.enter 61 args) w := enters_of L.fsymMerge (by kernel_rfl) rfl; have estable : ∀ args w, (callFunc 43 args).run P w = .ok (.enter 43 args) w := enters_of L.fstable (by kernel_rfl) rfl
  have S0 := Lib.hid S
  clear S
  go_enter L.frotate, Tryd.ntmps79
  go_wp2_with fail
  go_loopw [10, 11] (fun vi vj wr => ∃ (i j : Nat) (dk : Array α), vi = .int .i64 i ∧ vj = .int .i64 j ∧ 0 < i ∧ 0 < j ∧ i ≤ m ∧ m + j ≤ d.size ∧ dk.size = d.size ∧ Hid (SWK enc k w0 blk off dk wr) ∧ Hid (rotS dk (m - i) m (m + j) = rotS d a m b)) (fun vi vj _ => (intOf vi).toNat + (intOf vj).toNat)
  case atStart => exact ⟨m - a, b - m, d, by congr 1; omega, by congr 1; omega, by omega, by omega, by omega, by omega, rfl, S0, Lib.hid (by rw [show m - (m - a) = a by omega, show m + (b - m) = b by omega])⟩
  case round =>
    clear S0
    obtain ⟨i, j, dk, rfl, rfl, hi, hj, him, hjd, hsk, S1, HR⟩ := hrel
    by_cases hij : i = j
    · subst hij
      have hcon := Lib.hid (L.swapRange aE zE g cb cap (m - i) m i dk wr R (by omega) S1.out (by omega) (by omega) (by omega))
      rw [hsk, show ((m - i : Nat) : Int) = (m : Int) - (i : Int) by omega] at hcon
      have hne : ((i : Int) != (i : Int)) = false := by simp
      go_wp2_with (go_at_fn 92; refine hcon.out.mono ?_; rintro e w2 ⟨rfl, S2⟩)
      have S3 : Hid (SWK enc k w0 blk off (rotS d a m b) w2) := Lib.hid (by rw [← HR.out, ← rot_end dk m i him (by omega)]; exact S2)
      clear S2 hcon S1 HR
      go_wp2_with fail
      go_end0
      exact ⟨rfl, S3.out⟩
    · have hne : ((i : Int) != (j : Int)) = true := by simp; omega
      by_cases hlt : j < i
      · have hcon := Lib.hid (L.swapRange aE zE g cb cap (m - i) m j dk wr R (by omega) S1.out (by omega) (by omega) (by omega))
        rw [hsk, show ((m - i : Nat) : Int) = (m : Int) - (i : Int) by omega] at hcon
        have hgt : decide ((i : Int) > (j : Int)) = true := decide_eq_true (by omega)
        have hlt' : (j : Int) < (i : Int) := by omega
        have HR2 := Lib.hid ((rot_left dk m i j him (by omega) hlt).trans HR.out)
        go_wp2_with (go_at_fn 92; refine hcon.out.mono ?_; rintro e w2 ⟨rfl, S2⟩)
        have S3 := Lib.hid S2
        have hsk2 : (swapR dk (m - i) m j).size = d.size := by rw [size_swapR]; exact hsk
        generalize swapR dk (m - i) m j = dk2 at *
        clear S2 hcon S1 HR
        go_wp2_with fail
        go_roundw
        case rel => exact ⟨i - j, j, dk2, by congr 1; omega, rfl, by omega, hj, by omega, hjd, hsk2, S3, HR2⟩
        case measure => simp [intOf]; omega
      · have hcon := Lib.hid (L.swapRange aE zE g cb cap (m - i) (m + j - i) i dk wr R (by omega) S1.out (by omega) (by omega) (by omega))
        rw [hsk, show ((m - i : Nat) : Int) = (m : Int) - (i : Int) by omega, show ((m + j - i : Nat) : Int) = (m : Int) + (j : Int) - (i : Int) by omega] at hcon
        have hgt : decide ((i : Int) > (j : Int)) = false := decide_eq_false (by omega)
        have hlt' : ¬ (j : Int) < (i : Int) := by omega
        have HR2 := Lib.hid ((rot_right dk m i j him (by omega) (by omega)).trans HR.out)
        go_wp2_with (go_at_fn 92; refine hcon.out.mono ?_; rintro e w2 ⟨rfl, S2⟩)
        have S3 := Lib.hid S2
        have hsk2 : (swapR dk (m - i) (m + j - i) i).size = d.size := by rw [size_swapR]; exact hsk
        generalize swapR dk (m - i) (m + j - i) i = dk2 at *
        clear S2 hcon S1 HR
        go_wp2_with fail
        go_roundw
        case rel => exact ⟨i, j - i, dk2, rfl, by congr 1; omega, hi, by omega, him, by omega, hsk2, S3, HR2⟩
        case measure => simp [intOf]; omega
def SymPost (enc : α → List Value) (k : Nat) (w0 : World) (blk off : Nat) (lt : α → α → Bool) (a b : Nat) (d : Array α) (e : Ending) (w' : World) : Prop :=
  e = .returned (.tuple #[]) ∧ ∃ d', (PermIn a b d d' ∧ SortedIn lt a b d') ∧ SWK enc k w0 blk off d' w'
set_option maxHeartbeats 16000000 in
set_option maxRecDepth 1000000 in
theorem StabSiteL.symMerge (L : StabSiteL P) (aE : ∀ w, (isAgg 39).run P w = .ok true w) (zE : ∀ w, (Go.sizeOf 39).run P w = .ok k w) (cf : α → α → Int) (lt : α → α → Bool) (hw : SWO lt) (g : Nat) (cb : Array Value) (cap : Nat)
    (eg : ∀ args w, (callFunc g args).run P w = .ok (.enter g args) w) (hcmp : CmpLays P g cb enc k cf blk off d0.size w0) (R : RowK enc k w0 blk off d0) :
    ∀ (s a m b : Nat) (d : Array α) (w : World), b - a ≤ s → a < m → m < b → b ≤ d.size → d0.size = d.size → d.size < 4611686018427387904 → SWK enc k w0 blk off d w → SortedIn lt a m d → SortedIn lt m b d →
      (∀ p q, a ≤ p → p < m → m ≤ q → q < b → lt d[q]! d[p]! = decide (cf d[q]! d[p]! < 0)) →
      Calls P 61 #[.slice (some ⟨blk, off, none⟩) d.size cap, .int .i64 a, .int .i64 m, .int .i64 b, .func (.func g) #[] cb] w (SymPost enc k w0 blk off lt a b d) := by
  have mixed := L.mixed; have t0 := L.t0; have a0 := L.a0; have z0 := L.z0; have v0 := L.v0; have t3 := L.t3; have a3 := L.a3; have z3 := L.z3; have v3 := L.v3; have t4 := L.t4; have a4 := L.a4; have z4 := L.z4; have v4 := L.v4; have tU := L.tU; have aU := L.aU; have zU := L.zU; have vU := L.vU; have tS := L.tS; have aS := L.aS; have zS := L.zS; have vS := L.vS; have tF := L.tF; have aF := L.aF; have zF := L.zF; have vF := L.vF
  have u0 := run_underlying L.t0; have u3 := run_underlying L.t3; have u4 := run_underlying L.t4; have uU := run_underlying L.tU; have uS := run_underlying L.tS; have uF := run_underlying L.tF

  have eswapRange : ∀ args w, (callFunc 92 args).run P w = .ok (.enter 92 args) w := enters_of L.fswapRange (by kernel_rfl) rfl; have erotate : ∀ args w, (callFunc 79 args).run P w = .ok (.enter 79 args) w := enters_of L.frotate (by kernel_rfl) rfl; have esymMerge : ∀ args w, (callFunc 61 args).run P w = .ok (.enter 61 args) w := enters_of L.fsymMerge (by kernel_rfl) rfl; have estable : ∀ args w, (callFunc 43 args).run P w = .ok (.enter 43 args) w := enters_of L.fstable (by kernel_rfl) rfl
  have HC := Lib.hid hcmp
  have HW := Lib.hid hw
  clear hcmp hw
  intro s
  induction s with
  | zero => intro a m b d w h1 h2 h3; omega
  | succ s ih =>
    intro a m b d w hsab h1 h2 h3 hs hsz S hL hR hX
    have IH := Lib.hid ih
    have S0 := Lib.hid S
    have HL := Lib.hid hL
    have HR := Lib.hid hR
    have HX := Lib.hid hX
    clear ih S hL hR hX
    by_cases c1 : m = a + 1
    · have e1 : ((m : Int) - (a : Int) == 1) = true := by rw [beq_iff_eq]; omega
      have HM := Lib.hid c1
      clear c1
      go_enter L.fsymMerge, Tryd.ntmps61
      go_wp2_with fail
      go_loopw [10, 11] (fun vi vj wr => ∃ i j : Nat, vi = .int .i64 i ∧ vj = .int .i64 j ∧ m ≤ i ∧ i ≤ j ∧ j ≤ b ∧ Hid (SWK enc k w0 blk off d wr) ∧ Hid (BS (fun t => lt d[t]! d[a]!) m b i j)) (fun vi vj _ => (intOf vj).toNat - (intOf vi).toNat)
      case atStart => exact ⟨m, b, rfl, rfl, Nat.le_refl _, by omega, Nat.le_refl _, S0, Lib.hid (BS.start _ _ _)⟩
      case round =>
        clear S0 e1
        obtain ⟨i, j, rfl, rfl, hmi, hij, hjb, S1, B1⟩ := hrel
        by_cases hlt : i < j
        · cases hq : lt d[(i + j) / 2]! d[a]! with
          | true =>
            have B2 := Lib.hid (B1.out.up (anti1 HW.out d[a]! HR.out) (h := (i + j) / 2) (by omega) (by (try dsimp only); rw [hq]))
            have HQ : Hid (lt d[(i + j) / 2]! d[a]! = true) := Lib.hid hq
            clear hq
            have eai : (((i : Int) + (j : Int)) / 2 : Int).toNat = (i + j) / 2 := by omega
            have pai : (0 : Int) ≤ (((i : Int) + (j : Int)) / 2 : Int) := by omega
            have bai : (((i : Int) + (j : Int)) / 2 : Int) < (d.size : Int) := by omega
            have rai : IntKind.i64.wrap (((i : Int) + (j : Int)) / 2 : Int) = (((i : Int) + (j : Int)) / 2 : Int) := by rw [IntKind.wrap_i64]; omega
            have eaj : ((a : Int) : Int).toNat = a := by omega
            have paj : (0 : Int) ≤ ((a : Int) : Int) := by omega
            have baj : ((a : Int) : Int) < (d.size : Int) := by omega
            have raj : IntKind.i64.wrap ((a : Int) : Int) = ((a : Int) : Int) := by rw [IntKind.wrap_i64]; omega
            obtain ⟨xx, hxx⟩ : ∃ x, x = d[(i + j) / 2]! := ⟨_, rfl⟩
            obtain ⟨yy, hyy⟩ : ∃ x, x = d[a]! := ⟨_, rfl⟩
            have la := S1.out.ld R (by omega) P ((i + j) / 2) (by omega)
            have lb := S1.out.ld R (by omega) P (a) (by omega)
            rw [← hxx] at la
            rw [← hyy] at lb
            have hc := S1.out.cmp HC.out (by omega) xx yy
            have hv : cf xx yy < 0 := by rw [hxx, hyy]; exact of_decide_eq_true (by rw [← HX.out a ((i + j) / 2) (Nat.le_refl _) h1 (by omega) (by omega)]; exact HQ.out)
            have hd : decide (cf xx yy < 0) = true := decide_eq_true hv
            clear hxx hyy
            go_wp2_with fail
            go_quiet_grown (first | (go_at_fn g; refine Calls.grown_of (hc _ _)))
            have S2 := Lib.hid (S1.out.grown nq osq)
            clear la lb hc S1
            generalize grow (wr.drewN nq) osq = w2 at S2 ⊢
            clear nq osq
            go_wp2_with fail
            go_roundw
            case rel => exact ⟨(i + j) / 2 + 1, j, by first | rfl | go_num | (congr 1; omega), rfl, by omega, by omega, by omega, S2, B2⟩
            case measure => first | (simp [intOf]; done) | (simp [intOf]; omega)
          | false =>
            have B2 := Lib.hid (B1.out.down (anti1 HW.out d[a]! HR.out) (h := (i + j) / 2) (by omega) (by (try dsimp only); rw [hq]))
            have HQ : Hid (lt d[(i + j) / 2]! d[a]! = false) := Lib.hid hq
            clear hq
            have eai : (((i : Int) + (j : Int)) / 2 : Int).toNat = (i + j) / 2 := by omega
            have pai : (0 : Int) ≤ (((i : Int) + (j : Int)) / 2 : Int) := by omega
            have bai : (((i : Int) + (j : Int)) / 2 : Int) < (d.size : Int) := by omega
            have rai : IntKind.i64.wrap (((i : Int) + (j : Int)) / 2 : Int) = (((i : Int) + (j : Int)) / 2 : Int) := by rw [IntKind.wrap_i64]; omega
            have eaj : ((a : Int) : Int).toNat = a := by omega
            have paj : (0 : Int) ≤ ((a : Int) : Int) := by omega
            have baj : ((a : Int) : Int) < (d.size : Int) := by omega
            have raj : IntKind.i64.wrap ((a : Int) : Int) = ((a : Int) : Int) := by rw [IntKind.wrap_i64]; omega
            obtain ⟨xx, hxx⟩ : ∃ x, x = d[(i + j) / 2]! := ⟨_, rfl⟩
            obtain ⟨yy, hyy⟩ : ∃ x, x = d[a]! := ⟨_, rfl⟩
            have la := S1.out.ld R (by omega) P ((i + j) / 2) (by omega)
            have lb := S1.out.ld R (by omega) P (a) (by omega)
            rw [← hxx] at la
            rw [← hyy] at lb
            have hc := S1.out.cmp HC.out (by omega) xx yy
            have hv : ¬ cf xx yy < 0 := by rw [hxx, hyy]; exact of_decide_eq_false (by rw [← HX.out a ((i + j) / 2) (Nat.le_refl _) h1 (by omega) (by omega)]; exact HQ.out)
            have hd : decide (cf xx yy < 0) = false := decide_eq_false hv
            clear hxx hyy
            go_wp2_with fail
            go_quiet_grown (first | (go_at_fn g; refine Calls.grown_of (hc _ _)))
            have S2 := Lib.hid (S1.out.grown nq osq)
            clear la lb hc S1
            generalize grow (wr.drewN nq) osq = w2 at S2 ⊢
            clear nq osq
            go_wp2_with fail
            go_roundw
            case rel => exact ⟨i, (i + j) / 2, rfl, by first | rfl | go_num | (congr 1; omega), by omega, by omega, by omega, S2, B2⟩
            case measure => first | (simp [intOf]; done) | (simp [intOf]; omega)
        · obtain rfl : j = i := by omega
          go_wp2_with fail
          go_loopw [13] (fun vi wr => ∃ t : Nat, vi = .int .i64 t ∧ a ≤ t ∧ t + 1 ≤ j ∧ Hid (SWK enc k w0 blk off (rotS d a (a + 1) (t + 1)) wr)) (fun vi _ => j - (intOf vi).toNat)
          case atStart => exact ⟨a, rfl, Nat.le_refl _, by have := HM.out; omega, Lib.hid (by rw [rot_up0]; exact S1.out)⟩
          case round =>
            clear S1
            obtain ⟨t, rfl, hat, htj, S1⟩ := hrel
            by_cases hlt2 : t + 1 < j
            · have hlti : (t : Int) < (j : Int) - 1 := by omega
              have hsk := size_rotS d a (a + 1) (t + 1)
              have HRU := Lib.hid (rot_up d a t hat (by omega))
              generalize rotS d a (a + 1) (t + 1) = dk at *
              go_wp2_with fail
              have eai : ((t : Int) : Int).toNat = t := by omega
              have pai : (0 : Int) ≤ ((t : Int) : Int) := by omega
              have bai : ((t : Int) : Int) < (d.size : Int) := by omega
              have rai : IntKind.i64.wrap ((t : Int) : Int) = ((t : Int) : Int) := by rw [IntKind.wrap_i64]; omega
              have eaj : ((t : Int) + 1 : Int).toNat = t + 1 := by omega
              have paj : (0 : Int) ≤ ((t : Int) + 1 : Int) := by omega
              have baj : ((t : Int) + 1 : Int) < (d.size : Int) := by omega
              have raj : IntKind.i64.wrap ((t : Int) + 1 : Int) = ((t : Int) + 1 : Int) := by rw [IntKind.wrap_i64]; omega
              have S2 := Lib.hid (S1.out.swapped R (t) (t + 1) (by omega) (by omega))
              have la := S1.out.ld1 R (by omega) P (t) (by omega)
              have lb := S1.out.ld1 R (by omega) P (t + 1) (by omega)
              have sa := S1.out.st1 R (by omega) P (t) (by omega) dk[t + 1]!
              have sb := S1.out.st2 R (by omega) P (t) (t + 1) (by omega) (by omega) dk[t + 1]! dk[t]!
              have na : (enc dk[t]!).length = k := R.hk _
              have nb : (enc dk[t + 1]!).length = k := R.hk _
              generalize enc dk[t]! = cI at S2 la sb na
              generalize enc dk[t + 1]! = cJ at S2 lb sa sb nb
              clear S1
              go_wp2_with fail
              go_big_region_o
              clear la lb sa sb
              generalize (wr.drew.setCells blk (off + (t) * k) cJ).setCells blk (off + (t + 1) * k) cI = w2 at S2 ⊢
              go_wp2_with fail
              go_roundw
              case rel => exact ⟨t + 1, by go_num, by omega, by omega, Lib.hid (by rw [← HRU.out]; exact S2.out)⟩
              case measure => first | (simp [intOf]; done) | (simp [intOf]; omega)
            · have hlti : ¬ (t : Int) < (j : Int) - 1 := by omega
              obtain rfl : j = t + 1 := by omega
              have HM2 := HM.out
              subst HM2
              have HD := Lib.hid (And.intro (permRot' (d := d) (a := a) (b := b) (x := a) (m := a + 1) (y := t + 1) (Nat.le_refl _) (by omega) (by omega) hjb h3) (merge1 HW.out h3 HR.out (by omega) hjb B1.out))
              go_wp2_with fail
              first | go_end0 | go_ret
              exact ⟨rfl, _, HD.out, S1.out⟩
    by_cases c2 : b = m + 1
    · have e1 : ((m : Int) - (a : Int) == 1) = false := by rw [beq_eq_false_iff_ne]; omega
      have e2 : ((b : Int) - (m : Int) == 1) = true := by rw [beq_iff_eq]; omega
      have HM := Lib.hid c2
      clear c2
      go_enter L.fsymMerge, Tryd.ntmps61
      go_wp2_with fail
      go_loopw [14, 15] (fun vi vj wr => ∃ i j : Nat, vi = .int .i64 i ∧ vj = .int .i64 j ∧ a ≤ i ∧ i ≤ j ∧ j ≤ m ∧ Hid (SWK enc k w0 blk off d wr) ∧ Hid (BS (fun t => !lt d[m]! d[t]!) a m i j)) (fun vi vj _ => (intOf vj).toNat - (intOf vi).toNat)
      case atStart => exact ⟨a, m, rfl, rfl, Nat.le_refl _, by omega, Nat.le_refl _, S0, Lib.hid (BS.start _ _ _)⟩
      case round =>
        clear S0 e1 e2
        obtain ⟨i, j, rfl, rfl, hmi, hij, hjb, S1, B1⟩ := hrel
        by_cases hlt : i < j
        · cases hq : lt d[m]! d[(i + j) / 2]! with
          | true =>
            have B2 := Lib.hid (B1.out.down (anti2 HW.out d[m]! HL.out) (h := (i + j) / 2) (by omega) (by (try dsimp only); rw [hq]; rfl))
            have HQ : Hid (lt d[m]! d[(i + j) / 2]! = true) := Lib.hid hq
            clear hq
            have eai : ((m : Int) : Int).toNat = m := by omega
            have pai : (0 : Int) ≤ ((m : Int) : Int) := by omega
            have bai : ((m : Int) : Int) < (d.size : Int) := by omega
            have rai : IntKind.i64.wrap ((m : Int) : Int) = ((m : Int) : Int) := by rw [IntKind.wrap_i64]; omega
            have eaj : (((i : Int) + (j : Int)) / 2 : Int).toNat = (i + j) / 2 := by omega
            have paj : (0 : Int) ≤ (((i : Int) + (j : Int)) / 2 : Int) := by omega
            have baj : (((i : Int) + (j : Int)) / 2 : Int) < (d.size : Int) := by omega
            have raj : IntKind.i64.wrap (((i : Int) + (j : Int)) / 2 : Int) = (((i : Int) + (j : Int)) / 2 : Int) := by rw [IntKind.wrap_i64]; omega
            obtain ⟨xx, hxx⟩ : ∃ x, x = d[m]! := ⟨_, rfl⟩
            obtain ⟨yy, hyy⟩ : ∃ x, x = d[(i + j) / 2]! := ⟨_, rfl⟩
            have la := S1.out.ld R (by omega) P (m) (by omega)
            have lb := S1.out.ld R (by omega) P ((i + j) / 2) (by omega)
            rw [← hxx] at la
            rw [← hyy] at lb
            have hc := S1.out.cmp HC.out (by omega) xx yy
            have hv : cf xx yy < 0 := by rw [hxx, hyy]; exact of_decide_eq_true (by rw [← HX.out ((i + j) / 2) m (by omega) (by omega) (Nat.le_refl _) h2]; exact HQ.out)
            have hd : decide (cf xx yy < 0) = true := decide_eq_true hv
            clear hxx hyy
            go_wp2_with fail
            go_quiet_grown (first | (go_at_fn g; refine Calls.grown_of (hc _ _)))
            have S2 := Lib.hid (S1.out.grown nq osq)
            clear la lb hc S1
            generalize grow (wr.drewN nq) osq = w2 at S2 ⊢
            clear nq osq
            go_wp2_with fail
            go_roundw
            case rel => exact ⟨i, (i + j) / 2, rfl, by first | rfl | go_num | (congr 1; omega), by omega, by omega, by omega, S2, B2⟩
            case measure => first | (simp [intOf]; done) | (simp [intOf]; omega)
          | false =>
            have B2 := Lib.hid (B1.out.up (anti2 HW.out d[m]! HL.out) (h := (i + j) / 2) (by omega) (by (try dsimp only); rw [hq]; rfl))
            have HQ : Hid (lt d[m]! d[(i + j) / 2]! = false) := Lib.hid hq
            clear hq
            have eai : ((m : Int) : Int).toNat = m := by omega
            have pai : (0 : Int) ≤ ((m : Int) : Int) := by omega
            have bai : ((m : Int) : Int) < (d.size : Int) := by omega
            have rai : IntKind.i64.wrap ((m : Int) : Int) = ((m : Int) : Int) := by rw [IntKind.wrap_i64]; omega
            have eaj : (((i : Int) + (j : Int)) / 2 : Int).toNat = (i + j) / 2 := by omega
            have paj : (0 : Int) ≤ (((i : Int) + (j : Int)) / 2 : Int) := by omega
            have baj : (((i : Int) + (j : Int)) / 2 : Int) < (d.size : Int) := by omega
            have raj : IntKind.i64.wrap (((i : Int) + (j : Int)) / 2 : Int) = (((i : Int) + (j : Int)) / 2 : Int) := by rw [IntKind.wrap_i64]; omega
            obtain ⟨xx, hxx⟩ : ∃ x, x = d[m]! := ⟨_, rfl⟩
            obtain ⟨yy, hyy⟩ : ∃ x, x = d[(i + j) / 2]! := ⟨_, rfl⟩
            have la := S1.out.ld R (by omega) P (m) (by omega)
            have lb := S1.out.ld R (by omega) P ((i + j) / 2) (by omega)
            rw [← hxx] at la
            rw [← hyy] at lb
            have hc := S1.out.cmp HC.out (by omega) xx yy
            have hv : ¬ cf xx yy < 0 := by rw [hxx, hyy]; exact of_decide_eq_false (by rw [← HX.out ((i + j) / 2) m (by omega) (by omega) (Nat.le_refl _) h2]; exact HQ.out)
            have hd : decide (cf xx yy < 0) = false := decide_eq_false hv
            clear hxx hyy
            go_wp2_with fail
            go_quiet_grown (first | (go_at_fn g; refine Calls.grown_of (hc _ _)))
            have S2 := Lib.hid (S1.out.grown nq osq)
            clear la lb hc S1
            generalize grow (wr.drewN nq) osq = w2 at S2 ⊢
            clear nq osq
            go_wp2_with fail
            go_roundw
            case rel => exact ⟨(i + j) / 2 + 1, j, by first | rfl | go_num | (congr 1; omega), rfl, by omega, by omega, by omega, S2, B2⟩
            case measure => first | (simp [intOf]; done) | (simp [intOf]; omega)
        · obtain rfl : j = i := by omega
          go_wp2_with fail
          go_loopw [17] (fun vi wr => ∃ t : Nat, vi = .int .i64 t ∧ j ≤ t ∧ t ≤ m ∧ Hid (SWK enc k w0 blk off (rotS d t m (m + 1)) wr)) (fun vi _ => (intOf vi).toNat)
          case atStart => exact ⟨m, rfl, by omega, Nat.le_refl _, Lib.hid (by rw [rot_down0]; exact S1.out)⟩
          case round =>
            clear S1
            obtain ⟨t, rfl, hat, htj, S1⟩ := hrel
            by_cases hlt2 : j < t
            · obtain ⟨t, rfl⟩ : ∃ t', t = t' + 1 := ⟨t - 1, by omega⟩
              have hlti : (j : Int) < (t : Int) + 1 := by omega
              have hgt : decide ((t : Int) + 1 > (j : Int)) = true := decide_eq_true (by omega)
              have hsk := size_rotS d (t + 1) m (m + 1)
              have HRU := Lib.hid (rot_down d m t (by omega) (by omega))
              generalize rotS d (t + 1) m (m + 1) = dk at *
              go_wp2_with fail
              have eai : ((t : Int) + 1 : Int).toNat = t + 1 := by omega
              have pai : (0 : Int) ≤ ((t : Int) + 1 : Int) := by omega
              have bai : ((t : Int) + 1 : Int) < (d.size : Int) := by omega
              have rai : IntKind.i64.wrap ((t : Int) + 1 : Int) = ((t : Int) + 1 : Int) := by rw [IntKind.wrap_i64]; omega
              have eaj : ((t : Int) : Int).toNat = t := by omega
              have paj : (0 : Int) ≤ ((t : Int) : Int) := by omega
              have baj : ((t : Int) : Int) < (d.size : Int) := by omega
              have raj : IntKind.i64.wrap ((t : Int) : Int) = ((t : Int) : Int) := by rw [IntKind.wrap_i64]; omega
              have S2 := Lib.hid (S1.out.swapped R (t + 1) (t) (by omega) (by omega))
              have la := S1.out.ld1 R (by omega) P (t + 1) (by omega)
              have lb := S1.out.ld1 R (by omega) P (t) (by omega)
              have sa := S1.out.st1 R (by omega) P (t + 1) (by omega) dk[t]!
              have sb := S1.out.st2 R (by omega) P (t + 1) (t) (by omega) (by omega) dk[t]! dk[t + 1]!
              have na : (enc dk[t + 1]!).length = k := R.hk _
              have nb : (enc dk[t]!).length = k := R.hk _
              generalize enc dk[t + 1]! = cI at S2 la sb na
              generalize enc dk[t]! = cJ at S2 lb sa sb nb
              clear S1
              go_wp2_with fail
              go_big_region_o
              clear la lb sa sb
              generalize (wr.drew.setCells blk (off + (t + 1) * k) cJ).setCells blk (off + (t) * k) cI = w2 at S2 ⊢
              go_wp2_with fail
              go_roundw
              case rel => exact ⟨t, by go_num, by omega, by omega, Lib.hid (by rw [← HRU.out]; exact S2.out)⟩
              case measure => first | (simp [intOf]; done) | (simp [intOf]; omega)
            · have hlti : ¬ (j : Int) < (t : Int) := by omega
              have hgt : decide ((t : Int) > (j : Int)) = false := decide_eq_false (by omega)
              obtain rfl : t = j := by omega
              have HM2 := HM.out
              subst HM2
              have HD := Lib.hid (And.intro (permRot' (d := d) (a := a) (b := m + 1) (x := t) (m := m) (y := m + 1) hmi hjb (by omega) (Nat.le_refl _) h3) (merge2 HW.out h3 HL.out hmi hjb B1.out))
              go_wp2_with fail
              first | go_end0 | go_ret
              exact ⟨rfl, _, HD.out, S1.out⟩
    have e1 : ((m : Int) - (a : Int) == 1) = false := by rw [beq_eq_false_iff_ne]; omega
    have e2 : ((b : Int) - (m : Int) == 1) = false := by rw [beq_eq_false_iff_ne]; omega
    obtain ⟨mid, hmid⟩ : ∃ x : Nat, x = (a + b) / 2 := ⟨_, rfl⟩
    have HMI := Lib.hid (show (mid : Int) = ((a : Int) + (b : Int)) / 2 by omega)
    have hmd : 2 * mid ≤ a + b ∧ a + b ≤ 2 * mid + 1 := by omega
    by_cases c3 : mid < m
    · have b0 : ((a : Int) + (b : Int)) / 2 < (m : Int) := by omega
      have bd0 : decide ((m : Int) > ((a : Int) + (b : Int)) / 2) = true := decide_eq_true (by omega)
      go_enter L.fsymMerge, Tryd.ntmps61
      go_wp2_with fail
      go_loopw [20, 21] (fun vi vj wr => ∃ i j : Nat, vi = .int .i64 i ∧ vj = .int .i64 j ∧ (mid + m - b) ≤ i ∧ i ≤ j ∧ j ≤ mid ∧ Hid (SWK enc k w0 blk off d wr) ∧ Hid (BS (fun t => !lt d[mid + m - 1 - t]! d[t]!) (mid + m - b) mid i j)) (fun vi vj _ => (intOf vj).toNat - (intOf vi).toNat)
      case atStart => exact ⟨(mid + m - b), mid, by congr 1; omega, by first | rfl | (congr 1; omega), Nat.le_refl _, by omega, Nat.le_refl _, S0, Lib.hid (BS.start _ _ _)⟩
      case round =>
        clear S0 e1 e2 b0 bd0
        obtain ⟨i, j, rfl, rfl, hloi, hij, hjh, S1, B1⟩ := hrel
        by_cases hlt : i < j
        · cases hq : lt d[mid + m - 1 - (i + j) / 2]! d[(i + j) / 2]! with
          | true =>
            have B2 := Lib.hid (B1.out.down (anti3 HW.out (a := a) (m := m) (b := b) (n := mid + m) HL.out HR.out (fun c k1 k2 => by omega)) (h := (i + j) / 2) (by omega) (by (try dsimp only); rw [hq]; rfl))
            have HQ : Hid (lt d[mid + m - 1 - (i + j) / 2]! d[(i + j) / 2]! = true) := Lib.hid hq
            clear hq
            have pbi : ((i : Int) + (j : Int)) / 2 ≤ ((a : Int) + (b : Int)) / 2 + (m : Int) - 1 := by omega
            have eai : (((a : Int) + (b : Int)) / 2 + (m : Int) - 1 - ((i : Int) + (j : Int)) / 2 : Int).toNat = mid + m - 1 - (i + j) / 2 := by omega
            have pai : (0 : Int) ≤ (((a : Int) + (b : Int)) / 2 + (m : Int) - 1 - ((i : Int) + (j : Int)) / 2 : Int) := by omega
            have bai : (((a : Int) + (b : Int)) / 2 + (m : Int) - 1 - ((i : Int) + (j : Int)) / 2 : Int) < (d.size : Int) := by omega
            have rai : IntKind.i64.wrap (((a : Int) + (b : Int)) / 2 + (m : Int) - 1 - ((i : Int) + (j : Int)) / 2 : Int) = (((a : Int) + (b : Int)) / 2 + (m : Int) - 1 - ((i : Int) + (j : Int)) / 2 : Int) := by rw [IntKind.wrap_i64]; omega
            have eaj : (((i : Int) + (j : Int)) / 2 : Int).toNat = (i + j) / 2 := by omega
            have paj : (0 : Int) ≤ (((i : Int) + (j : Int)) / 2 : Int) := by omega
            have baj : (((i : Int) + (j : Int)) / 2 : Int) < (d.size : Int) := by omega
            have raj : IntKind.i64.wrap (((i : Int) + (j : Int)) / 2 : Int) = (((i : Int) + (j : Int)) / 2 : Int) := by rw [IntKind.wrap_i64]; omega
            obtain ⟨xx, hxx⟩ : ∃ x, x = d[mid + m - 1 - (i + j) / 2]! := ⟨_, rfl⟩
            obtain ⟨yy, hyy⟩ : ∃ x, x = d[(i + j) / 2]! := ⟨_, rfl⟩
            have la := S1.out.ld R (by omega) P (mid + m - 1 - (i + j) / 2) (by omega)
            have lb := S1.out.ld R (by omega) P ((i + j) / 2) (by omega)
            rw [← hxx] at la
            rw [← hyy] at lb
            rw [hmid] at la
            have hc := S1.out.cmp HC.out (by omega) xx yy
            have hv : cf xx yy < 0 := by rw [hxx, hyy]; exact of_decide_eq_true (by rw [← HX.out ((i + j) / 2) (mid + m - 1 - (i + j) / 2) (by omega) (by omega) (by omega) (by omega)]; exact HQ.out)
            have hd : decide (cf xx yy < 0) = true := decide_eq_true hv
            clear hxx hyy
            go_wp2_with fail
            go_quiet_grown (first | (go_at_fn g; refine Calls.grown_of (hc _ _)))
            have S2 := Lib.hid (S1.out.grown nq osq)
            clear la lb hc S1
            generalize grow (wr.drewN nq) osq = w2 at S2 ⊢
            clear nq osq
            go_wp2_with fail
            go_roundw
            case rel => exact ⟨i, (i + j) / 2, rfl, by first | rfl | go_num | (congr 1; omega), by omega, by omega, by omega, S2, B2⟩
            case measure => first | (simp [intOf]; done) | (simp [intOf]; omega)
          | false =>
            have B2 := Lib.hid (B1.out.up (anti3 HW.out (a := a) (m := m) (b := b) (n := mid + m) HL.out HR.out (fun c k1 k2 => by omega)) (h := (i + j) / 2) (by omega) (by (try dsimp only); rw [hq]; rfl))
            have HQ : Hid (lt d[mid + m - 1 - (i + j) / 2]! d[(i + j) / 2]! = false) := Lib.hid hq
            clear hq
            have pbi : ((i : Int) + (j : Int)) / 2 ≤ ((a : Int) + (b : Int)) / 2 + (m : Int) - 1 := by omega
            have eai : (((a : Int) + (b : Int)) / 2 + (m : Int) - 1 - ((i : Int) + (j : Int)) / 2 : Int).toNat = mid + m - 1 - (i + j) / 2 := by omega
            have pai : (0 : Int) ≤ (((a : Int) + (b : Int)) / 2 + (m : Int) - 1 - ((i : Int) + (j : Int)) / 2 : Int) := by omega
            have bai : (((a : Int) + (b : Int)) / 2 + (m : Int) - 1 - ((i : Int) + (j : Int)) / 2 : Int) < (d.size : Int) := by omega
            have rai : IntKind.i64.wrap (((a : Int) + (b : Int)) / 2 + (m : Int) - 1 - ((i : Int) + (j : Int)) / 2 : Int) = (((a : Int) + (b : Int)) / 2 + (m : Int) - 1 - ((i : Int) + (j : Int)) / 2 : Int) := by rw [IntKind.wrap_i64]; omega
            have eaj : (((i : Int) + (j : Int)) / 2 : Int).toNat = (i + j) / 2 := by omega
            have paj : (0 : Int) ≤ (((i : Int) + (j : Int)) / 2 : Int) := by omega
            have baj : (((i : Int) + (j : Int)) / 2 : Int) < (d.size : Int) := by omega
            have raj : IntKind.i64.wrap (((i : Int) + (j : Int)) / 2 : Int) = (((i : Int) + (j : Int)) / 2 : Int) := by rw [IntKind.wrap_i64]; omega
            obtain ⟨xx, hxx⟩ : ∃ x, x = d[mid + m - 1 - (i + j) / 2]! := ⟨_, rfl⟩
            obtain ⟨yy, hyy⟩ : ∃ x, x = d[(i + j) / 2]! := ⟨_, rfl⟩
            have la := S1.out.ld R (by omega) P (mid + m - 1 - (i + j) / 2) (by omega)
            have lb := S1.out.ld R (by omega) P ((i + j) / 2) (by omega)
            rw [← hxx] at la
            rw [← hyy] at lb
            rw [hmid] at la
            have hc := S1.out.cmp HC.out (by omega) xx yy
            have hv : ¬ cf xx yy < 0 := by rw [hxx, hyy]; exact of_decide_eq_false (by rw [← HX.out ((i + j) / 2) (mid + m - 1 - (i + j) / 2) (by omega) (by omega) (by omega) (by omega)]; exact HQ.out)
            have hd : decide (cf xx yy < 0) = false := decide_eq_false hv
            clear hxx hyy
            go_wp2_with fail
            go_quiet_grown (first | (go_at_fn g; refine Calls.grown_of (hc _ _)))
            have S2 := Lib.hid (S1.out.grown nq osq)
            clear la lb hc S1
            generalize grow (wr.drewN nq) osq = w2 at S2 ⊢
            clear nq osq
            go_wp2_with fail
            go_roundw
            case rel => exact ⟨(i + j) / 2 + 1, j, by first | rfl | go_num | (congr 1; omega), rfl, by omega, by omega, by omega, S2, B2⟩
            case measure => first | (simp [intOf]; done) | (simp [intOf]; omega)
        · obtain rfl : j = i := by omega
          have HP := Lib.hid (sym_parts (cf := cf) HW.out h3 HL.out HR.out HX.out h1 h2 hmid (lo := (mid + m - b)) (hi := mid) hloi hjh (by omega) B1.out)
          obtain ⟨d1, hd1⟩ : ∃ x, x = rotS d j m (mid + m - j) := ⟨_, rfl⟩
          rw [← hd1] at HP
          have HD1 : Hid (rotS d j m (mid + m - j) = d1) := Lib.hid hd1.symm
          have hd1s : d1.size = d.size := HP.out.size
          clear hd1 B1
          by_cases q1 : j < m
          · by_cases q2 : j < mid
            · by_cases q3 : a < j
              · by_cases q4 : mid + m < b + j
                · have b1 : (j : Int) < (m : Int) := by omega
                  have bd1 : decide ((j : Int) < (m : Int)) = true := decide_eq_true b1
                  have b2 : (j : Int) < ((a : Int) + (b : Int)) / 2 := by omega
                  have bd2 : decide ((j : Int) < ((a : Int) + (b : Int)) / 2) = true := decide_eq_true b2
                  have b3 : (a : Int) < (j : Int) := by omega
                  have bd3 : decide ((a : Int) < (j : Int)) = true := decide_eq_true b3
                  have b4 : (m : Int) < ((a : Int) + (b : Int)) / 2 + (m : Int) - (j : Int) := by omega
                  have bd4 : decide ((m : Int) < ((a : Int) + (b : Int)) / 2 + (m : Int) - (j : Int)) = true := decide_eq_true b4
                  have b5 : ((a : Int) + (b : Int)) / 2 < ((a : Int) + (b : Int)) / 2 + (m : Int) - (j : Int) := by omega
                  have bd5 : decide (((a : Int) + (b : Int)) / 2 < ((a : Int) + (b : Int)) / 2 + (m : Int) - (j : Int)) = true := decide_eq_true b5
                  have b6 : ((a : Int) + (b : Int)) / 2 + (m : Int) - (j : Int) < (b : Int) := by omega
                  have bd6 : decide (((a : Int) + (b : Int)) / 2 + (m : Int) - (j : Int) < (b : Int)) = true := decide_eq_true b6
                  have CR := Lib.hid (L.rotate aE zE g cb cap j m (mid + m - j) d wr R hs S1.out (by omega) (by omega) (by omega) hsz)
                  rw [show ((mid + m - j : Nat) : Int) = ((a : Int) + (b : Int)) / 2 + (m : Int) - (j : Int) by omega, HD1.out] at CR
                  go_wp2_with (go_at_fn 79; refine CR.out.mono ?_; rintro e9 w2 ⟨rfl, S2⟩)
                  have S3 := Lib.hid S2
                  clear S2 CR S1
                  have C1 := Lib.hid (IH.out a j mid d1 w2 (by omega) (by omega) (by omega) (by omega) (by omega) (by omega) S3.out HP.out.s1 HP.out.s2 HP.out.x1)
                  rw [hd1s, HMI.out] at C1
                  go_wp2_with (go_at_fn 61; refine C1.out.mono ?_; rintro e9 w3 ⟨rfl, d2, ⟨hp2, hs2⟩, S4⟩)
                  have S5 := Lib.hid S4
                  have HH := Lib.hid (HP.out.half (by omega) (by omega) (by omega) h3 hp2 hs2)
                  have hd2s : d2.size = d.size := by rw [hp2.1, hd1s]
                  clear S4 C1 S3 hp2 hs2
                  have C2 := Lib.hid (IH.out mid (mid + m - j) b d2 w3 (by omega) (by omega) (by omega) (by omega) (by omega) (by omega) S5.out HH.out.s3 HH.out.s4 HH.out.x2)
                  rw [hd2s, HMI.out, show ((mid + m - j : Nat) : Int) = ((a : Int) + (b : Int)) / 2 + (m : Int) - (j : Int) by omega] at C2
                  go_wp2_with (go_at_fn 61; refine C2.out.mono ?_; rintro e9 w4 ⟨rfl, d3, ⟨hp3, hs3⟩, S6⟩)
                  have S7 := Lib.hid S6
                  have HF := Lib.hid (HH.out.done (by omega) (by omega) h3 hp3 hs3)
                  clear S6 C2 hp3 hs3
                  go_wp2_with fail
                  go_end0
                  exact ⟨rfl, d3, HF.out, S7.out⟩
                · have b1 : (j : Int) < (m : Int) := by omega
                  have bd1 : decide ((j : Int) < (m : Int)) = true := decide_eq_true b1
                  have b2 : (j : Int) < ((a : Int) + (b : Int)) / 2 := by omega
                  have bd2 : decide ((j : Int) < ((a : Int) + (b : Int)) / 2) = true := decide_eq_true b2
                  have b3 : (a : Int) < (j : Int) := by omega
                  have bd3 : decide ((a : Int) < (j : Int)) = true := decide_eq_true b3
                  have b4 : (m : Int) < ((a : Int) + (b : Int)) / 2 + (m : Int) - (j : Int) := by omega
                  have bd4 : decide ((m : Int) < ((a : Int) + (b : Int)) / 2 + (m : Int) - (j : Int)) = true := decide_eq_true b4
                  have b5 : ((a : Int) + (b : Int)) / 2 < ((a : Int) + (b : Int)) / 2 + (m : Int) - (j : Int) := by omega
                  have bd5 : decide (((a : Int) + (b : Int)) / 2 < ((a : Int) + (b : Int)) / 2 + (m : Int) - (j : Int)) = true := decide_eq_true b5
                  have b6 : ¬ ((a : Int) + (b : Int)) / 2 + (m : Int) - (j : Int) < (b : Int) := by omega
                  have bd6 : decide (((a : Int) + (b : Int)) / 2 + (m : Int) - (j : Int) < (b : Int)) = false := decide_eq_false b6
                  have CR := Lib.hid (L.rotate aE zE g cb cap j m (mid + m - j) d wr R hs S1.out (by omega) (by omega) (by omega) hsz)
                  rw [show ((mid + m - j : Nat) : Int) = ((a : Int) + (b : Int)) / 2 + (m : Int) - (j : Int) by omega, HD1.out] at CR
                  go_wp2_with (go_at_fn 79; refine CR.out.mono ?_; rintro e9 w2 ⟨rfl, S2⟩)
                  have S3 := Lib.hid S2
                  clear S2 CR S1
                  have C1 := Lib.hid (IH.out a j mid d1 w2 (by omega) (by omega) (by omega) (by omega) (by omega) (by omega) S3.out HP.out.s1 HP.out.s2 HP.out.x1)
                  rw [hd1s, HMI.out] at C1
                  go_wp2_with (go_at_fn 61; refine C1.out.mono ?_; rintro e9 w3 ⟨rfl, d2, ⟨hp2, hs2⟩, S4⟩)
                  have S5 := Lib.hid S4
                  have HH := Lib.hid (HP.out.half (by omega) (by omega) (by omega) h3 hp2 hs2)
                  have hd2s : d2.size = d.size := by rw [hp2.1, hd1s]
                  clear S4 C1 S3 hp2 hs2
                  have HF := Lib.hid (HH.out.done0 (by omega) (by omega) h3 (by omega))
                  go_wp2_with fail
                  go_end0
                  exact ⟨rfl, d2, HF.out, S5.out⟩
              · by_cases q4 : mid + m < b + j
                · have b1 : (j : Int) < (m : Int) := by omega
                  have bd1 : decide ((j : Int) < (m : Int)) = true := decide_eq_true b1
                  have b2 : (j : Int) < ((a : Int) + (b : Int)) / 2 := by omega
                  have bd2 : decide ((j : Int) < ((a : Int) + (b : Int)) / 2) = true := decide_eq_true b2
                  have b3 : ¬ (a : Int) < (j : Int) := by omega
                  have bd3 : decide ((a : Int) < (j : Int)) = false := decide_eq_false b3
                  have b4 : (m : Int) < ((a : Int) + (b : Int)) / 2 + (m : Int) - (j : Int) := by omega
                  have bd4 : decide ((m : Int) < ((a : Int) + (b : Int)) / 2 + (m : Int) - (j : Int)) = true := decide_eq_true b4
                  have b5 : ((a : Int) + (b : Int)) / 2 < ((a : Int) + (b : Int)) / 2 + (m : Int) - (j : Int) := by omega
                  have bd5 : decide (((a : Int) + (b : Int)) / 2 < ((a : Int) + (b : Int)) / 2 + (m : Int) - (j : Int)) = true := decide_eq_true b5
                  have b6 : ((a : Int) + (b : Int)) / 2 + (m : Int) - (j : Int) < (b : Int) := by omega
                  have bd6 : decide (((a : Int) + (b : Int)) / 2 + (m : Int) - (j : Int) < (b : Int)) = true := decide_eq_true b6
                  have CR := Lib.hid (L.rotate aE zE g cb cap j m (mid + m - j) d wr R hs S1.out (by omega) (by omega) (by omega) hsz)
                  rw [show ((mid + m - j : Nat) : Int) = ((a : Int) + (b : Int)) / 2 + (m : Int) - (j : Int) by omega, HD1.out] at CR
                  go_wp2_with (go_at_fn 79; refine CR.out.mono ?_; rintro e9 w2 ⟨rfl, S2⟩)
                  have S3 := Lib.hid S2
                  clear S2 CR S1
                  have HH := Lib.hid (HP.out.half0 (by omega) (by omega) (by omega) h3 (by omega))
                  have C2 := Lib.hid (IH.out mid (mid + m - j) b d1 w2 (by omega) (by omega) (by omega) (by omega) (by omega) (by omega) S3.out HH.out.s3 HH.out.s4 HH.out.x2)
                  rw [hd1s, HMI.out, show ((mid + m - j : Nat) : Int) = ((a : Int) + (b : Int)) / 2 + (m : Int) - (j : Int) by omega] at C2
                  go_wp2_with (go_at_fn 61; refine C2.out.mono ?_; rintro e9 w4 ⟨rfl, d3, ⟨hp3, hs3⟩, S6⟩)
                  have S7 := Lib.hid S6
                  have HF := Lib.hid (HH.out.done (by omega) (by omega) h3 hp3 hs3)
                  clear S6 C2 hp3 hs3
                  go_wp2_with fail
                  go_end0
                  exact ⟨rfl, d3, HF.out, S7.out⟩
                · have b1 : (j : Int) < (m : Int) := by omega
                  have bd1 : decide ((j : Int) < (m : Int)) = true := decide_eq_true b1
                  have b2 : (j : Int) < ((a : Int) + (b : Int)) / 2 := by omega
                  have bd2 : decide ((j : Int) < ((a : Int) + (b : Int)) / 2) = true := decide_eq_true b2
                  have b3 : ¬ (a : Int) < (j : Int) := by omega
                  have bd3 : decide ((a : Int) < (j : Int)) = false := decide_eq_false b3
                  have b4 : (m : Int) < ((a : Int) + (b : Int)) / 2 + (m : Int) - (j : Int) := by omega
                  have bd4 : decide ((m : Int) < ((a : Int) + (b : Int)) / 2 + (m : Int) - (j : Int)) = true := decide_eq_true b4
                  have b5 : ((a : Int) + (b : Int)) / 2 < ((a : Int) + (b : Int)) / 2 + (m : Int) - (j : Int) := by omega
                  have bd5 : decide (((a : Int) + (b : Int)) / 2 < ((a : Int) + (b : Int)) / 2 + (m : Int) - (j : Int)) = true := decide_eq_true b5
                  have b6 : ¬ ((a : Int) + (b : Int)) / 2 + (m : Int) - (j : Int) < (b : Int) := by omega
                  have bd6 : decide (((a : Int) + (b : Int)) / 2 + (m : Int) - (j : Int) < (b : Int)) = false := decide_eq_false b6
                  have CR := Lib.hid (L.rotate aE zE g cb cap j m (mid + m - j) d wr R hs S1.out (by omega) (by omega) (by omega) hsz)
                  rw [show ((mid + m - j : Nat) : Int) = ((a : Int) + (b : Int)) / 2 + (m : Int) - (j : Int) by omega, HD1.out] at CR
                  go_wp2_with (go_at_fn 79; refine CR.out.mono ?_; rintro e9 w2 ⟨rfl, S2⟩)
                  have S3 := Lib.hid S2
                  clear S2 CR S1
                  have HH := Lib.hid (HP.out.half0 (by omega) (by omega) (by omega) h3 (by omega))
                  have HF := Lib.hid (HH.out.done0 (by omega) (by omega) h3 (by omega))
                  go_wp2_with fail
                  go_end0
                  exact ⟨rfl, d1, HF.out, S3.out⟩
            · by_cases q3 : a < j
              · by_cases q4 : mid + m < b + j
                · have b1 : (j : Int) < (m : Int) := by omega
                  have bd1 : decide ((j : Int) < (m : Int)) = true := decide_eq_true b1
                  have b2 : ¬ (j : Int) < ((a : Int) + (b : Int)) / 2 := by omega
                  have bd2 : decide ((j : Int) < ((a : Int) + (b : Int)) / 2) = false := decide_eq_false b2
                  have b3 : (a : Int) < (j : Int) := by omega
                  have bd3 : decide ((a : Int) < (j : Int)) = true := decide_eq_true b3
                  have b4 : ¬ (m : Int) < ((a : Int) + (b : Int)) / 2 + (m : Int) - (j : Int) := by omega
                  have bd4 : decide ((m : Int) < ((a : Int) + (b : Int)) / 2 + (m : Int) - (j : Int)) = false := decide_eq_false b4
                  have b5 : ((a : Int) + (b : Int)) / 2 < ((a : Int) + (b : Int)) / 2 + (m : Int) - (j : Int) := by omega
                  have bd5 : decide (((a : Int) + (b : Int)) / 2 < ((a : Int) + (b : Int)) / 2 + (m : Int) - (j : Int)) = true := decide_eq_true b5
                  have b6 : ((a : Int) + (b : Int)) / 2 + (m : Int) - (j : Int) < (b : Int) := by omega
                  have bd6 : decide (((a : Int) + (b : Int)) / 2 + (m : Int) - (j : Int) < (b : Int)) = true := decide_eq_true b6
                  have S3 : Hid (SWK enc k w0 blk off d1 wr) := Lib.hid (by rw [← HD1.out, rot_triv d j m _ (by omega)]; exact S1.out)
                  clear S1
                  have HH := Lib.hid (HP.out.half0 (by omega) (by omega) (by omega) h3 (by omega))
                  have C2 := Lib.hid (IH.out mid (mid + m - j) b d1 wr (by omega) (by omega) (by omega) (by omega) (by omega) (by omega) S3.out HH.out.s3 HH.out.s4 HH.out.x2)
                  rw [hd1s, HMI.out, show ((mid + m - j : Nat) : Int) = ((a : Int) + (b : Int)) / 2 + (m : Int) - (j : Int) by omega] at C2
                  go_wp2_with (go_at_fn 61; refine C2.out.mono ?_; rintro e9 w4 ⟨rfl, d3, ⟨hp3, hs3⟩, S6⟩)
                  have S7 := Lib.hid S6
                  have HF := Lib.hid (HH.out.done (by omega) (by omega) h3 hp3 hs3)
                  clear S6 C2 hp3 hs3
                  go_wp2_with fail
                  go_end0
                  exact ⟨rfl, d3, HF.out, S7.out⟩
                · have b1 : (j : Int) < (m : Int) := by omega
                  have bd1 : decide ((j : Int) < (m : Int)) = true := decide_eq_true b1
                  have b2 : ¬ (j : Int) < ((a : Int) + (b : Int)) / 2 := by omega
                  have bd2 : decide ((j : Int) < ((a : Int) + (b : Int)) / 2) = false := decide_eq_false b2
                  have b3 : (a : Int) < (j : Int) := by omega
                  have bd3 : decide ((a : Int) < (j : Int)) = true := decide_eq_true b3
                  have b4 : ¬ (m : Int) < ((a : Int) + (b : Int)) / 2 + (m : Int) - (j : Int) := by omega
                  have bd4 : decide ((m : Int) < ((a : Int) + (b : Int)) / 2 + (m : Int) - (j : Int)) = false := decide_eq_false b4
                  have b5 : ((a : Int) + (b : Int)) / 2 < ((a : Int) + (b : Int)) / 2 + (m : Int) - (j : Int) := by omega
                  have bd5 : decide (((a : Int) + (b : Int)) / 2 < ((a : Int) + (b : Int)) / 2 + (m : Int) - (j : Int)) = true := decide_eq_true b5
                  have b6 : ¬ ((a : Int) + (b : Int)) / 2 + (m : Int) - (j : Int) < (b : Int) := by omega
                  have bd6 : decide (((a : Int) + (b : Int)) / 2 + (m : Int) - (j : Int) < (b : Int)) = false := decide_eq_false b6
                  have S3 : Hid (SWK enc k w0 blk off d1 wr) := Lib.hid (by rw [← HD1.out, rot_triv d j m _ (by omega)]; exact S1.out)
                  clear S1
                  have HH := Lib.hid (HP.out.half0 (by omega) (by omega) (by omega) h3 (by omega))
                  have HF := Lib.hid (HH.out.done0 (by omega) (by omega) h3 (by omega))
                  go_wp2_with fail
                  go_end0
                  exact ⟨rfl, d1, HF.out, S3.out⟩
              · by_cases q4 : mid + m < b + j
                · have b1 : (j : Int) < (m : Int) := by omega
                  have bd1 : decide ((j : Int) < (m : Int)) = true := decide_eq_true b1
                  have b2 : ¬ (j : Int) < ((a : Int) + (b : Int)) / 2 := by omega
                  have bd2 : decide ((j : Int) < ((a : Int) + (b : Int)) / 2) = false := decide_eq_false b2
                  have b3 : ¬ (a : Int) < (j : Int) := by omega
                  have bd3 : decide ((a : Int) < (j : Int)) = false := decide_eq_false b3
                  have b4 : ¬ (m : Int) < ((a : Int) + (b : Int)) / 2 + (m : Int) - (j : Int) := by omega
                  have bd4 : decide ((m : Int) < ((a : Int) + (b : Int)) / 2 + (m : Int) - (j : Int)) = false := decide_eq_false b4
                  have b5 : ((a : Int) + (b : Int)) / 2 < ((a : Int) + (b : Int)) / 2 + (m : Int) - (j : Int) := by omega
                  have bd5 : decide (((a : Int) + (b : Int)) / 2 < ((a : Int) + (b : Int)) / 2 + (m : Int) - (j : Int)) = true := decide_eq_true b5
                  have b6 : ((a : Int) + (b : Int)) / 2 + (m : Int) - (j : Int) < (b : Int) := by omega
                  have bd6 : decide (((a : Int) + (b : Int)) / 2 + (m : Int) - (j : Int) < (b : Int)) = true := decide_eq_true b6
                  have S3 : Hid (SWK enc k w0 blk off d1 wr) := Lib.hid (by rw [← HD1.out, rot_triv d j m _ (by omega)]; exact S1.out)
                  clear S1
                  have HH := Lib.hid (HP.out.half0 (by omega) (by omega) (by omega) h3 (by omega))
                  have C2 := Lib.hid (IH.out mid (mid + m - j) b d1 wr (by omega) (by omega) (by omega) (by omega) (by omega) (by omega) S3.out HH.out.s3 HH.out.s4 HH.out.x2)
                  rw [hd1s, HMI.out, show ((mid + m - j : Nat) : Int) = ((a : Int) + (b : Int)) / 2 + (m : Int) - (j : Int) by omega] at C2
                  go_wp2_with (go_at_fn 61; refine C2.out.mono ?_; rintro e9 w4 ⟨rfl, d3, ⟨hp3, hs3⟩, S6⟩)
                  have S7 := Lib.hid S6
                  have HF := Lib.hid (HH.out.done (by omega) (by omega) h3 hp3 hs3)
                  clear S6 C2 hp3 hs3
                  go_wp2_with fail
                  go_end0
                  exact ⟨rfl, d3, HF.out, S7.out⟩
                · have b1 : (j : Int) < (m : Int) := by omega
                  have bd1 : decide ((j : Int) < (m : Int)) = true := decide_eq_true b1
                  have b2 : ¬ (j : Int) < ((a : Int) + (b : Int)) / 2 := by omega
                  have bd2 : decide ((j : Int) < ((a : Int) + (b : Int)) / 2) = false := decide_eq_false b2
                  have b3 : ¬ (a : Int) < (j : Int) := by omega
                  have bd3 : decide ((a : Int) < (j : Int)) = false := decide_eq_false b3
                  have b4 : ¬ (m : Int) < ((a : Int) + (b : Int)) / 2 + (m : Int) - (j : Int) := by omega
                  have bd4 : decide ((m : Int) < ((a : Int) + (b : Int)) / 2 + (m : Int) - (j : Int)) = false := decide_eq_false b4
                  have b5 : ((a : Int) + (b : Int)) / 2 < ((a : Int) + (b : Int)) / 2 + (m : Int) - (j : Int) := by omega
                  have bd5 : decide (((a : Int) + (b : Int)) / 2 < ((a : Int) + (b : Int)) / 2 + (m : Int) - (j : Int)) = true := decide_eq_true b5
                  have b6 : ¬ ((a : Int) + (b : Int)) / 2 + (m : Int) - (j : Int) < (b : Int) := by omega
                  have bd6 : decide (((a : Int) + (b : Int)) / 2 + (m : Int) - (j : Int) < (b : Int)) = false := decide_eq_false b6
                  have S3 : Hid (SWK enc k w0 blk off d1 wr) := Lib.hid (by rw [← HD1.out, rot_triv d j m _ (by omega)]; exact S1.out)
                  clear S1
                  have HH := Lib.hid (HP.out.half0 (by omega) (by omega) (by omega) h3 (by omega))
                  have HF := Lib.hid (HH.out.done0 (by omega) (by omega) h3 (by omega))
                  go_wp2_with fail
                  go_end0
                  exact ⟨rfl, d1, HF.out, S3.out⟩
          · exact absurd (show j < m by omega) q1
    · have b0 : ¬ ((a : Int) + (b : Int)) / 2 < (m : Int) := by omega
      have bd0 : decide ((m : Int) > ((a : Int) + (b : Int)) / 2) = false := decide_eq_false (by omega)
      go_enter L.fsymMerge, Tryd.ntmps61
      go_wp2_with fail
      go_loopw [20, 21] (fun vi vj wr => ∃ i j : Nat, vi = .int .i64 i ∧ vj = .int .i64 j ∧ a ≤ i ∧ i ≤ j ∧ j ≤ m ∧ Hid (SWK enc k w0 blk off d wr) ∧ Hid (BS (fun t => !lt d[mid + m - 1 - t]! d[t]!) a m i j)) (fun vi vj _ => (intOf vj).toNat - (intOf vi).toNat)
      case atStart => exact ⟨a, m, rfl, by first | rfl | (congr 1; omega), Nat.le_refl _, by omega, Nat.le_refl _, S0, Lib.hid (BS.start _ _ _)⟩
      case round =>
        clear S0 e1 e2 b0 bd0
        obtain ⟨i, j, rfl, rfl, hloi, hij, hjh, S1, B1⟩ := hrel
        by_cases hlt : i < j
        · cases hq : lt d[mid + m - 1 - (i + j) / 2]! d[(i + j) / 2]! with
          | true =>
            have B2 := Lib.hid (B1.out.down (anti3 HW.out (a := a) (m := m) (b := b) (n := mid + m) HL.out HR.out (fun c k1 k2 => by omega)) (h := (i + j) / 2) (by omega) (by (try dsimp only); rw [hq]; rfl))
            have HQ : Hid (lt d[mid + m - 1 - (i + j) / 2]! d[(i + j) / 2]! = true) := Lib.hid hq
            clear hq
            have pbi : ((i : Int) + (j : Int)) / 2 ≤ ((a : Int) + (b : Int)) / 2 + (m : Int) - 1 := by omega
            have eai : (((a : Int) + (b : Int)) / 2 + (m : Int) - 1 - ((i : Int) + (j : Int)) / 2 : Int).toNat = mid + m - 1 - (i + j) / 2 := by omega
            have pai : (0 : Int) ≤ (((a : Int) + (b : Int)) / 2 + (m : Int) - 1 - ((i : Int) + (j : Int)) / 2 : Int) := by omega
            have bai : (((a : Int) + (b : Int)) / 2 + (m : Int) - 1 - ((i : Int) + (j : Int)) / 2 : Int) < (d.size : Int) := by omega
            have rai : IntKind.i64.wrap (((a : Int) + (b : Int)) / 2 + (m : Int) - 1 - ((i : Int) + (j : Int)) / 2 : Int) = (((a : Int) + (b : Int)) / 2 + (m : Int) - 1 - ((i : Int) + (j : Int)) / 2 : Int) := by rw [IntKind.wrap_i64]; omega
            have eaj : (((i : Int) + (j : Int)) / 2 : Int).toNat = (i + j) / 2 := by omega
            have paj : (0 : Int) ≤ (((i : Int) + (j : Int)) / 2 : Int) := by omega
            have baj : (((i : Int) + (j : Int)) / 2 : Int) < (d.size : Int) := by omega
            have raj : IntKind.i64.wrap (((i : Int) + (j : Int)) / 2 : Int) = (((i : Int) + (j : Int)) / 2 : Int) := by rw [IntKind.wrap_i64]; omega
            obtain ⟨xx, hxx⟩ : ∃ x, x = d[mid + m - 1 - (i + j) / 2]! := ⟨_, rfl⟩
            obtain ⟨yy, hyy⟩ : ∃ x, x = d[(i + j) / 2]! := ⟨_, rfl⟩
            have la := S1.out.ld R (by omega) P (mid + m - 1 - (i + j) / 2) (by omega)
            have lb := S1.out.ld R (by omega) P ((i + j) / 2) (by omega)
            rw [← hxx] at la
            rw [← hyy] at lb
            rw [hmid] at la
            have hc := S1.out.cmp HC.out (by omega) xx yy
            have hv : cf xx yy < 0 := by rw [hxx, hyy]; exact of_decide_eq_true (by rw [← HX.out ((i + j) / 2) (mid + m - 1 - (i + j) / 2) (by omega) (by omega) (by omega) (by omega)]; exact HQ.out)
            have hd : decide (cf xx yy < 0) = true := decide_eq_true hv
            clear hxx hyy
            go_wp2_with fail
            go_quiet_grown (first | (go_at_fn g; refine Calls.grown_of (hc _ _)))
            have S2 := Lib.hid (S1.out.grown nq osq)
            clear la lb hc S1
            generalize grow (wr.drewN nq) osq = w2 at S2 ⊢
            clear nq osq
            go_wp2_with fail
            go_roundw
            case rel => exact ⟨i, (i + j) / 2, rfl, by first | rfl | go_num | (congr 1; omega), by omega, by omega, by omega, S2, B2⟩
            case measure => first | (simp [intOf]; done) | (simp [intOf]; omega)
          | false =>
            have B2 := Lib.hid (B1.out.up (anti3 HW.out (a := a) (m := m) (b := b) (n := mid + m) HL.out HR.out (fun c k1 k2 => by omega)) (h := (i + j) / 2) (by omega) (by (try dsimp only); rw [hq]; rfl))
            have HQ : Hid (lt d[mid + m - 1 - (i + j) / 2]! d[(i + j) / 2]! = false) := Lib.hid hq
            clear hq
            have pbi : ((i : Int) + (j : Int)) / 2 ≤ ((a : Int) + (b : Int)) / 2 + (m : Int) - 1 := by omega
            have eai : (((a : Int) + (b : Int)) / 2 + (m : Int) - 1 - ((i : Int) + (j : Int)) / 2 : Int).toNat = mid + m - 1 - (i + j) / 2 := by omega
            have pai : (0 : Int) ≤ (((a : Int) + (b : Int)) / 2 + (m : Int) - 1 - ((i : Int) + (j : Int)) / 2 : Int) := by omega
            have bai : (((a : Int) + (b : Int)) / 2 + (m : Int) - 1 - ((i : Int) + (j : Int)) / 2 : Int) < (d.size : Int) := by omega
            have rai : IntKind.i64.wrap (((a : Int) + (b : Int)) / 2 + (m : Int) - 1 - ((i : Int) + (j : Int)) / 2 : Int) = (((a : Int) + (b : Int)) / 2 + (m : Int) - 1 - ((i : Int) + (j : Int)) / 2 : Int) := by rw [IntKind.wrap_i64]; omega
            have eaj : (((i : Int) + (j : Int)) / 2 : Int).toNat = (i + j) / 2 := by omega
            have paj : (0 : Int) ≤ (((i : Int) + (j : Int)) / 2 : Int) := by omega
            have baj : (((i : Int) + (j : Int)) / 2 : Int) < (d.size : Int) := by omega
            have raj : IntKind.i64.wrap (((i : Int) + (j : Int)) / 2 : Int) = (((i : Int) + (j : Int)) / 2 : Int) := by rw [IntKind.wrap_i64]; omega
            obtain ⟨xx, hxx⟩ : ∃ x, x = d[mid + m - 1 - (i + j) / 2]! := ⟨_, rfl⟩
            obtain ⟨yy, hyy⟩ : ∃ x, x = d[(i + j) / 2]! := ⟨_, rfl⟩
            have la := S1.out.ld R (by omega) P (mid + m - 1 - (i + j) / 2) (by omega)
            have lb := S1.out.ld R (by omega) P ((i + j) / 2) (by omega)
            rw [← hxx] at la
            rw [← hyy] at lb
            rw [hmid] at la
            have hc := S1.out.cmp HC.out (by omega) xx yy
            have hv : ¬ cf xx yy < 0 := by rw [hxx, hyy]; exact of_decide_eq_false (by rw [← HX.out ((i + j) / 2) (mid + m - 1 - (i + j) / 2) (by omega) (by omega) (by omega) (by omega)]; exact HQ.out)
            have hd : decide (cf xx yy < 0) = false := decide_eq_false hv
            clear hxx hyy
            go_wp2_with fail
            go_quiet_grown (first | (go_at_fn g; refine Calls.grown_of (hc _ _)))
            have S2 := Lib.hid (S1.out.grown nq osq)
            clear la lb hc S1
            generalize grow (wr.drewN nq) osq = w2 at S2 ⊢
            clear nq osq
            go_wp2_with fail
            go_roundw
            case rel => exact ⟨(i + j) / 2 + 1, j, by first | rfl | go_num | (congr 1; omega), rfl, by omega, by omega, by omega, S2, B2⟩
            case measure => first | (simp [intOf]; done) | (simp [intOf]; omega)
        · obtain rfl : j = i := by omega
          have HP := Lib.hid (sym_parts (cf := cf) HW.out h3 HL.out HR.out HX.out h1 h2 hmid (lo := a) (hi := m) hloi hjh (by omega) B1.out)
          obtain ⟨d1, hd1⟩ : ∃ x, x = rotS d j m (mid + m - j) := ⟨_, rfl⟩
          rw [← hd1] at HP
          have HD1 : Hid (rotS d j m (mid + m - j) = d1) := Lib.hid hd1.symm
          have hd1s : d1.size = d.size := HP.out.size
          clear hd1 B1
          by_cases q1 : j < m
          · by_cases q2 : j < mid
            · by_cases q3 : a < j
              · by_cases q4 : mid + m < b + j
                · have b1 : (j : Int) < (m : Int) := by omega
                  have bd1 : decide ((j : Int) < (m : Int)) = true := decide_eq_true b1
                  have b2 : (j : Int) < ((a : Int) + (b : Int)) / 2 := by omega
                  have bd2 : decide ((j : Int) < ((a : Int) + (b : Int)) / 2) = true := decide_eq_true b2
                  have b3 : (a : Int) < (j : Int) := by omega
                  have bd3 : decide ((a : Int) < (j : Int)) = true := decide_eq_true b3
                  have b4 : (m : Int) < ((a : Int) + (b : Int)) / 2 + (m : Int) - (j : Int) := by omega
                  have bd4 : decide ((m : Int) < ((a : Int) + (b : Int)) / 2 + (m : Int) - (j : Int)) = true := decide_eq_true b4
                  have b5 : ((a : Int) + (b : Int)) / 2 < ((a : Int) + (b : Int)) / 2 + (m : Int) - (j : Int) := by omega
                  have bd5 : decide (((a : Int) + (b : Int)) / 2 < ((a : Int) + (b : Int)) / 2 + (m : Int) - (j : Int)) = true := decide_eq_true b5
                  have b6 : ((a : Int) + (b : Int)) / 2 + (m : Int) - (j : Int) < (b : Int) := by omega
                  have bd6 : decide (((a : Int) + (b : Int)) / 2 + (m : Int) - (j : Int) < (b : Int)) = true := decide_eq_true b6
                  have CR := Lib.hid (L.rotate aE zE g cb cap j m (mid + m - j) d wr R hs S1.out (by omega) (by omega) (by omega) hsz)
                  rw [show ((mid + m - j : Nat) : Int) = ((a : Int) + (b : Int)) / 2 + (m : Int) - (j : Int) by omega, HD1.out] at CR
                  go_wp2_with (go_at_fn 79; refine CR.out.mono ?_; rintro e9 w2 ⟨rfl, S2⟩)
                  have S3 := Lib.hid S2
                  clear S2 CR S1
                  have C1 := Lib.hid (IH.out a j mid d1 w2 (by omega) (by omega) (by omega) (by omega) (by omega) (by omega) S3.out HP.out.s1 HP.out.s2 HP.out.x1)
                  rw [hd1s, HMI.out] at C1
                  go_wp2_with (go_at_fn 61; refine C1.out.mono ?_; rintro e9 w3 ⟨rfl, d2, ⟨hp2, hs2⟩, S4⟩)
                  have S5 := Lib.hid S4
                  have HH := Lib.hid (HP.out.half (by omega) (by omega) (by omega) h3 hp2 hs2)
                  have hd2s : d2.size = d.size := by rw [hp2.1, hd1s]
                  clear S4 C1 S3 hp2 hs2
                  have C2 := Lib.hid (IH.out mid (mid + m - j) b d2 w3 (by omega) (by omega) (by omega) (by omega) (by omega) (by omega) S5.out HH.out.s3 HH.out.s4 HH.out.x2)
                  rw [hd2s, HMI.out, show ((mid + m - j : Nat) : Int) = ((a : Int) + (b : Int)) / 2 + (m : Int) - (j : Int) by omega] at C2
                  go_wp2_with (go_at_fn 61; refine C2.out.mono ?_; rintro e9 w4 ⟨rfl, d3, ⟨hp3, hs3⟩, S6⟩)
                  have S7 := Lib.hid S6
                  have HF := Lib.hid (HH.out.done (by omega) (by omega) h3 hp3 hs3)
                  clear S6 C2 hp3 hs3
                  go_wp2_with fail
                  go_end0
                  exact ⟨rfl, d3, HF.out, S7.out⟩
                · have b1 : (j : Int) < (m : Int) := by omega
                  have bd1 : decide ((j : Int) < (m : Int)) = true := decide_eq_true b1
                  have b2 : (j : Int) < ((a : Int) + (b : Int)) / 2 := by omega
                  have bd2 : decide ((j : Int) < ((a : Int) + (b : Int)) / 2) = true := decide_eq_true b2
                  have b3 : (a : Int) < (j : Int) := by omega
                  have bd3 : decide ((a : Int) < (j : Int)) = true := decide_eq_true b3
                  have b4 : (m : Int) < ((a : Int) + (b : Int)) / 2 + (m : Int) - (j : Int) := by omega
                  have bd4 : decide ((m : Int) < ((a : Int) + (b : Int)) / 2 + (m : Int) - (j : Int)) = true := decide_eq_true b4
                  have b5 : ((a : Int) + (b : Int)) / 2 < ((a : Int) + (b : Int)) / 2 + (m : Int) - (j : Int) := by omega
                  have bd5 : decide (((a : Int) + (b : Int)) / 2 < ((a : Int) + (b : Int)) / 2 + (m : Int) - (j : Int)) = true := decide_eq_true b5
                  have b6 : ¬ ((a : Int) + (b : Int)) / 2 + (m : Int) - (j : Int) < (b : Int) := by omega
                  have bd6 : decide (((a : Int) + (b : Int)) / 2 + (m : Int) - (j : Int) < (b : Int)) = false := decide_eq_false b6
                  have CR := Lib.hid (L.rotate aE zE g cb cap j m (mid + m - j) d wr R hs S1.out (by omega) (by omega) (by omega) hsz)
                  rw [show ((mid + m - j : Nat) : Int) = ((a : Int) + (b : Int)) / 2 + (m : Int) - (j : Int) by omega, HD1.out] at CR
                  go_wp2_with (go_at_fn 79; refine CR.out.mono ?_; rintro e9 w2 ⟨rfl, S2⟩)
                  have S3 := Lib.hid S2
                  clear S2 CR S1
                  have C1 := Lib.hid (IH.out a j mid d1 w2 (by omega) (by omega) (by omega) (by omega) (by omega) (by omega) S3.out HP.out.s1 HP.out.s2 HP.out.x1)
                  rw [hd1s, HMI.out] at C1
                  go_wp2_with (go_at_fn 61; refine C1.out.mono ?_; rintro e9 w3 ⟨rfl, d2, ⟨hp2, hs2⟩, S4⟩)
                  have S5 := Lib.hid S4
                  have HH := Lib.hid (HP.out.half (by omega) (by omega) (by omega) h3 hp2 hs2)
                  have hd2s : d2.size = d.size := by rw [hp2.1, hd1s]
                  clear S4 C1 S3 hp2 hs2
                  have HF := Lib.hid (HH.out.done0 (by omega) (by omega) h3 (by omega))
                  go_wp2_with fail
                  go_end0
                  exact ⟨rfl, d2, HF.out, S5.out⟩
              · by_cases q4 : mid + m < b + j
                · have b1 : (j : Int) < (m : Int) := by omega
                  have bd1 : decide ((j : Int) < (m : Int)) = true := decide_eq_true b1
                  have b2 : (j : Int) < ((a : Int) + (b : Int)) / 2 := by omega
                  have bd2 : decide ((j : Int) < ((a : Int) + (b : Int)) / 2) = true := decide_eq_true b2
                  have b3 : ¬ (a : Int) < (j : Int) := by omega
                  have bd3 : decide ((a : Int) < (j : Int)) = false := decide_eq_false b3
                  have b4 : (m : Int) < ((a : Int) + (b : Int)) / 2 + (m : Int) - (j : Int) := by omega
                  have bd4 : decide ((m : Int) < ((a : Int) + (b : Int)) / 2 + (m : Int) - (j : Int)) = true := decide_eq_true b4
                  have b5 : ((a : Int) + (b : Int)) / 2 < ((a : Int) + (b : Int)) / 2 + (m : Int) - (j : Int) := by omega
                  have bd5 : decide (((a : Int) + (b : Int)) / 2 < ((a : Int) + (b : Int)) / 2 + (m : Int) - (j : Int)) = true := decide_eq_true b5
                  have b6 : ((a : Int) + (b : Int)) / 2 + (m : Int) - (j : Int) < (b : Int) := by omega
                  have bd6 : decide (((a : Int) + (b : Int)) / 2 + (m : Int) - (j : Int) < (b : Int)) = true := decide_eq_true b6
                  have CR := Lib.hid (L.rotate aE zE g cb cap j m (mid + m - j) d wr R hs S1.out (by omega) (by omega) (by omega) hsz)
                  rw [show ((mid + m - j : Nat) : Int) = ((a : Int) + (b : Int)) / 2 + (m : Int) - (j : Int) by omega, HD1.out] at CR
                  go_wp2_with (go_at_fn 79; refine CR.out.mono ?_; rintro e9 w2 ⟨rfl, S2⟩)
                  have S3 := Lib.hid S2
                  clear S2 CR S1
                  have HH := Lib.hid (HP.out.half0 (by omega) (by omega) (by omega) h3 (by omega))
                  have C2 := Lib.hid (IH.out mid (mid + m - j) b d1 w2 (by omega) (by omega) (by omega) (by omega) (by omega) (by omega) S3.out HH.out.s3 HH.out.s4 HH.out.x2)
                  rw [hd1s, HMI.out, show ((mid + m - j : Nat) : Int) = ((a : Int) + (b : Int)) / 2 + (m : Int) - (j : Int) by omega] at C2
                  go_wp2_with (go_at_fn 61; refine C2.out.mono ?_; rintro e9 w4 ⟨rfl, d3, ⟨hp3, hs3⟩, S6⟩)
                  have S7 := Lib.hid S6
                  have HF := Lib.hid (HH.out.done (by omega) (by omega) h3 hp3 hs3)
                  clear S6 C2 hp3 hs3
                  go_wp2_with fail
                  go_end0
                  exact ⟨rfl, d3, HF.out, S7.out⟩
                · have b1 : (j : Int) < (m : Int) := by omega
                  have bd1 : decide ((j : Int) < (m : Int)) = true := decide_eq_true b1
                  have b2 : (j : Int) < ((a : Int) + (b : Int)) / 2 := by omega
                  have bd2 : decide ((j : Int) < ((a : Int) + (b : Int)) / 2) = true := decide_eq_true b2
                  have b3 : ¬ (a : Int) < (j : Int) := by omega
                  have bd3 : decide ((a : Int) < (j : Int)) = false := decide_eq_false b3
                  have b4 : (m : Int) < ((a : Int) + (b : Int)) / 2 + (m : Int) - (j : Int) := by omega
                  have bd4 : decide ((m : Int) < ((a : Int) + (b : Int)) / 2 + (m : Int) - (j : Int)) = true := decide_eq_true b4
                  have b5 : ((a : Int) + (b : Int)) / 2 < ((a : Int) + (b : Int)) / 2 + (m : Int) - (j : Int) := by omega
                  have bd5 : decide (((a : Int) + (b : Int)) / 2 < ((a : Int) + (b : Int)) / 2 + (m : Int) - (j : Int)) = true := decide_eq_true b5
                  have b6 : ¬ ((a : Int) + (b : Int)) / 2 + (m : Int) - (j : Int) < (b : Int) := by omega
                  have bd6 : decide (((a : Int) + (b : Int)) / 2 + (m : Int) - (j : Int) < (b : Int)) = false := decide_eq_false b6
                  have CR := Lib.hid (L.rotate aE zE g cb cap j m (mid + m - j) d wr R hs S1.out (by omega) (by omega) (by omega) hsz)
                  rw [show ((mid + m - j : Nat) : Int) = ((a : Int) + (b : Int)) / 2 + (m : Int) - (j : Int) by omega, HD1.out] at CR
                  go_wp2_with (go_at_fn 79; refine CR.out.mono ?_; rintro e9 w2 ⟨rfl, S2⟩)
                  have S3 := Lib.hid S2
                  clear S2 CR S1
                  have HH := Lib.hid (HP.out.half0 (by omega) (by omega) (by omega) h3 (by omega))
                  have HF := Lib.hid (HH.out.done0 (by omega) (by omega) h3 (by omega))
                  go_wp2_with fail
                  go_end0
                  exact ⟨rfl, d1, HF.out, S3.out⟩
            · exact absurd (show j < mid by omega) q2
          · by_cases q2 : j < mid
            · by_cases q3 : a < j
              · by_cases q4 : mid + m < b + j
                · have b1 : ¬ (j : Int) < (m : Int) := by omega
                  have bd1 : decide ((j : Int) < (m : Int)) = false := decide_eq_false b1
                  have b2 : (j : Int) < ((a : Int) + (b : Int)) / 2 := by omega
                  have bd2 : decide ((j : Int) < ((a : Int) + (b : Int)) / 2) = true := decide_eq_true b2
                  have b3 : (a : Int) < (j : Int) := by omega
                  have bd3 : decide ((a : Int) < (j : Int)) = true := decide_eq_true b3
                  have b4 : (m : Int) < ((a : Int) + (b : Int)) / 2 + (m : Int) - (j : Int) := by omega
                  have bd4 : decide ((m : Int) < ((a : Int) + (b : Int)) / 2 + (m : Int) - (j : Int)) = true := decide_eq_true b4
                  have b5 : ¬ ((a : Int) + (b : Int)) / 2 < ((a : Int) + (b : Int)) / 2 + (m : Int) - (j : Int) := by omega
                  have bd5 : decide (((a : Int) + (b : Int)) / 2 < ((a : Int) + (b : Int)) / 2 + (m : Int) - (j : Int)) = false := decide_eq_false b5
                  have b6 : ((a : Int) + (b : Int)) / 2 + (m : Int) - (j : Int) < (b : Int) := by omega
                  have bd6 : decide (((a : Int) + (b : Int)) / 2 + (m : Int) - (j : Int) < (b : Int)) = true := decide_eq_true b6
                  have S3 : Hid (SWK enc k w0 blk off d1 wr) := Lib.hid (by rw [← HD1.out, rot_triv d j m _ (by omega)]; exact S1.out)
                  clear S1
                  have C1 := Lib.hid (IH.out a j mid d1 wr (by omega) (by omega) (by omega) (by omega) (by omega) (by omega) S3.out HP.out.s1 HP.out.s2 HP.out.x1)
                  rw [hd1s, HMI.out] at C1
                  go_wp2_with (go_at_fn 61; refine C1.out.mono ?_; rintro e9 w3 ⟨rfl, d2, ⟨hp2, hs2⟩, S4⟩)
                  have S5 := Lib.hid S4
                  have HH := Lib.hid (HP.out.half (by omega) (by omega) (by omega) h3 hp2 hs2)
                  have hd2s : d2.size = d.size := by rw [hp2.1, hd1s]
                  clear S4 C1 S3 hp2 hs2
                  have HF := Lib.hid (HH.out.done0 (by omega) (by omega) h3 (by omega))
                  go_wp2_with fail
                  go_end0
                  exact ⟨rfl, d2, HF.out, S5.out⟩
                · have b1 : ¬ (j : Int) < (m : Int) := by omega
                  have bd1 : decide ((j : Int) < (m : Int)) = false := decide_eq_false b1
                  have b2 : (j : Int) < ((a : Int) + (b : Int)) / 2 := by omega
                  have bd2 : decide ((j : Int) < ((a : Int) + (b : Int)) / 2) = true := decide_eq_true b2
                  have b3 : (a : Int) < (j : Int) := by omega
                  have bd3 : decide ((a : Int) < (j : Int)) = true := decide_eq_true b3
                  have b4 : (m : Int) < ((a : Int) + (b : Int)) / 2 + (m : Int) - (j : Int) := by omega
                  have bd4 : decide ((m : Int) < ((a : Int) + (b : Int)) / 2 + (m : Int) - (j : Int)) = true := decide_eq_true b4
                  have b5 : ¬ ((a : Int) + (b : Int)) / 2 < ((a : Int) + (b : Int)) / 2 + (m : Int) - (j : Int) := by omega
                  have bd5 : decide (((a : Int) + (b : Int)) / 2 < ((a : Int) + (b : Int)) / 2 + (m : Int) - (j : Int)) = false := decide_eq_false b5
                  have b6 : ¬ ((a : Int) + (b : Int)) / 2 + (m : Int) - (j : Int) < (b : Int) := by omega
                  have bd6 : decide (((a : Int) + (b : Int)) / 2 + (m : Int) - (j : Int) < (b : Int)) = false := decide_eq_false b6
                  have S3 : Hid (SWK enc k w0 blk off d1 wr) := Lib.hid (by rw [← HD1.out, rot_triv d j m _ (by omega)]; exact S1.out)
                  clear S1
                  have C1 := Lib.hid (IH.out a j mid d1 wr (by omega) (by omega) (by omega) (by omega) (by omega) (by omega) S3.out HP.out.s1 HP.out.s2 HP.out.x1)
                  rw [hd1s, HMI.out] at C1
                  go_wp2_with (go_at_fn 61; refine C1.out.mono ?_; rintro e9 w3 ⟨rfl, d2, ⟨hp2, hs2⟩, S4⟩)
                  have S5 := Lib.hid S4
                  have HH := Lib.hid (HP.out.half (by omega) (by omega) (by omega) h3 hp2 hs2)
                  have hd2s : d2.size = d.size := by rw [hp2.1, hd1s]
                  clear S4 C1 S3 hp2 hs2
                  have HF := Lib.hid (HH.out.done0 (by omega) (by omega) h3 (by omega))
                  go_wp2_with fail
                  go_end0
                  exact ⟨rfl, d2, HF.out, S5.out⟩
              · by_cases q4 : mid + m < b + j
                · have b1 : ¬ (j : Int) < (m : Int) := by omega
                  have bd1 : decide ((j : Int) < (m : Int)) = false := decide_eq_false b1
                  have b2 : (j : Int) < ((a : Int) + (b : Int)) / 2 := by omega
                  have bd2 : decide ((j : Int) < ((a : Int) + (b : Int)) / 2) = true := decide_eq_true b2
                  have b3 : ¬ (a : Int) < (j : Int) := by omega
                  have bd3 : decide ((a : Int) < (j : Int)) = false := decide_eq_false b3
                  have b4 : (m : Int) < ((a : Int) + (b : Int)) / 2 + (m : Int) - (j : Int) := by omega
                  have bd4 : decide ((m : Int) < ((a : Int) + (b : Int)) / 2 + (m : Int) - (j : Int)) = true := decide_eq_true b4
                  have b5 : ¬ ((a : Int) + (b : Int)) / 2 < ((a : Int) + (b : Int)) / 2 + (m : Int) - (j : Int) := by omega
                  have bd5 : decide (((a : Int) + (b : Int)) / 2 < ((a : Int) + (b : Int)) / 2 + (m : Int) - (j : Int)) = false := decide_eq_false b5
                  have b6 : ((a : Int) + (b : Int)) / 2 + (m : Int) - (j : Int) < (b : Int) := by omega
                  have bd6 : decide (((a : Int) + (b : Int)) / 2 + (m : Int) - (j : Int) < (b : Int)) = true := decide_eq_true b6
                  have S3 : Hid (SWK enc k w0 blk off d1 wr) := Lib.hid (by rw [← HD1.out, rot_triv d j m _ (by omega)]; exact S1.out)
                  clear S1
                  have HH := Lib.hid (HP.out.half0 (by omega) (by omega) (by omega) h3 (by omega))
                  have HF := Lib.hid (HH.out.done0 (by omega) (by omega) h3 (by omega))
                  go_wp2_with fail
                  go_end0
                  exact ⟨rfl, d1, HF.out, S3.out⟩
                · have b1 : ¬ (j : Int) < (m : Int) := by omega
                  have bd1 : decide ((j : Int) < (m : Int)) = false := decide_eq_false b1
                  have b2 : (j : Int) < ((a : Int) + (b : Int)) / 2 := by omega
                  have bd2 : decide ((j : Int) < ((a : Int) + (b : Int)) / 2) = true := decide_eq_true b2
                  have b3 : ¬ (a : Int) < (j : Int) := by omega
                  have bd3 : decide ((a : Int) < (j : Int)) = false := decide_eq_false b3
                  have b4 : (m : Int) < ((a : Int) + (b : Int)) / 2 + (m : Int) - (j : Int) := by omega
                  have bd4 : decide ((m : Int) < ((a : Int) + (b : Int)) / 2 + (m : Int) - (j : Int)) = true := decide_eq_true b4
                  have b5 : ¬ ((a : Int) + (b : Int)) / 2 < ((a : Int) + (b : Int)) / 2 + (m : Int) - (j : Int) := by omega
                  have bd5 : decide (((a : Int) + (b : Int)) / 2 < ((a : Int) + (b : Int)) / 2 + (m : Int) - (j : Int)) = false := decide_eq_false b5
                  have b6 : ¬ ((a : Int) + (b : Int)) / 2 + (m : Int) - (j : Int) < (b : Int) := by omega
                  have bd6 : decide (((a : Int) + (b : Int)) / 2 + (m : Int) - (j : Int) < (b : Int)) = false := decide_eq_false b6
                  have S3 : Hid (SWK enc k w0 blk off d1 wr) := Lib.hid (by rw [← HD1.out, rot_triv d j m _ (by omega)]; exact S1.out)
                  clear S1
                  have HH := Lib.hid (HP.out.half0 (by omega) (by omega) (by omega) h3 (by omega))
                  have HF := Lib.hid (HH.out.done0 (by omega) (by omega) h3 (by omega))
                  go_wp2_with fail
                  go_end0
                  exact ⟨rfl, d1, HF.out, S3.out⟩
            · by_cases q3 : a < j
              · by_cases q4 : mid + m < b + j
                · have b1 : ¬ (j : Int) < (m : Int) := by omega
                  have bd1 : decide ((j : Int) < (m : Int)) = false := decide_eq_false b1
                  have b2 : ¬ (j : Int) < ((a : Int) + (b : Int)) / 2 := by omega
                  have bd2 : decide ((j : Int) < ((a : Int) + (b : Int)) / 2) = false := decide_eq_false b2
                  have b3 : (a : Int) < (j : Int) := by omega
                  have bd3 : decide ((a : Int) < (j : Int)) = true := decide_eq_true b3
                  have b4 : ¬ (m : Int) < ((a : Int) + (b : Int)) / 2 + (m : Int) - (j : Int) := by omega
                  have bd4 : decide ((m : Int) < ((a : Int) + (b : Int)) / 2 + (m : Int) - (j : Int)) = false := decide_eq_false b4
                  have b5 : ¬ ((a : Int) + (b : Int)) / 2 < ((a : Int) + (b : Int)) / 2 + (m : Int) - (j : Int) := by omega
                  have bd5 : decide (((a : Int) + (b : Int)) / 2 < ((a : Int) + (b : Int)) / 2 + (m : Int) - (j : Int)) = false := decide_eq_false b5
                  have b6 : ((a : Int) + (b : Int)) / 2 + (m : Int) - (j : Int) < (b : Int) := by omega
                  have bd6 : decide (((a : Int) + (b : Int)) / 2 + (m : Int) - (j : Int) < (b : Int)) = true := decide_eq_true b6
                  have S3 : Hid (SWK enc k w0 blk off d1 wr) := Lib.hid (by rw [← HD1.out, rot_triv d j m _ (by omega)]; exact S1.out)
                  clear S1
                  have HH := Lib.hid (HP.out.half0 (by omega) (by omega) (by omega) h3 (by omega))
                  have HF := Lib.hid (HH.out.done0 (by omega) (by omega) h3 (by omega))
                  go_wp2_with fail
                  go_end0
                  exact ⟨rfl, d1, HF.out, S3.out⟩
                · have b1 : ¬ (j : Int) < (m : Int) := by omega
                  have bd1 : decide ((j : Int) < (m : Int)) = false := decide_eq_false b1
                  have b2 : ¬ (j : Int) < ((a : Int) + (b : Int)) / 2 := by omega
                  have bd2 : decide ((j : Int) < ((a : Int) + (b : Int)) / 2) = false := decide_eq_false b2
                  have b3 : (a : Int) < (j : Int) := by omega
                  have bd3 : decide ((a : Int) < (j : Int)) = true := decide_eq_true b3
                  have b4 : ¬ (m : Int) < ((a : Int) + (b : Int)) / 2 + (m : Int) - (j : Int) := by omega
                  have bd4 : decide ((m : Int) < ((a : Int) + (b : Int)) / 2 + (m : Int) - (j : Int)) = false := decide_eq_false b4
                  have b5 : ¬ ((a : Int) + (b : Int)) / 2 < ((a : Int) + (b : Int)) / 2 + (m : Int) - (j : Int) := by omega
                  have bd5 : decide (((a : Int) + (b : Int)) / 2 < ((a : Int) + (b : Int)) / 2 + (m : Int) - (j : Int)) = false := decide_eq_false b5
                  have b6 : ¬ ((a : Int) + (b : Int)) / 2 + (m : Int) - (j : Int) < (b : Int) := by omega
                  have bd6 : decide (((a : Int) + (b : Int)) / 2 + (m : Int) - (j : Int) < (b : Int)) = false := decide_eq_false b6
                  have S3 : Hid (SWK enc k w0 blk off d1 wr) := Lib.hid (by rw [← HD1.out, rot_triv d j m _ (by omega)]; exact S1.out)
                  clear S1
                  have HH := Lib.hid (HP.out.half0 (by omega) (by omega) (by omega) h3 (by omega))
                  have HF := Lib.hid (HH.out.done0 (by omega) (by omega) h3 (by omega))
                  go_wp2_with fail
                  go_end0
                  exact ⟨rfl, d1, HF.out, S3.out⟩
              · by_cases q4 : mid + m < b + j
                · have b1 : ¬ (j : Int) < (m : Int) := by omega
                  have bd1 : decide ((j : Int) < (m : Int)) = false := decide_eq_false b1
                  have b2 : ¬ (j : Int) < ((a : Int) + (b : Int)) / 2 := by omega
                  have bd2 : decide ((j : Int) < ((a : Int) + (b : Int)) / 2) = false := decide_eq_false b2
                  have b3 : ¬ (a : Int) < (j : Int) := by omega
                  have bd3 : decide ((a : Int) < (j : Int)) = false := decide_eq_false b3
                  have b4 : ¬ (m : Int) < ((a : Int) + (b : Int)) / 2 + (m : Int) - (j : Int) := by omega
                  have bd4 : decide ((m : Int) < ((a : Int) + (b : Int)) / 2 + (m : Int) - (j : Int)) = false := decide_eq_false b4
                  have b5 : ¬ ((a : Int) + (b : Int)) / 2 < ((a : Int) + (b : Int)) / 2 + (m : Int) - (j : Int) := by omega
                  have bd5 : decide (((a : Int) + (b : Int)) / 2 < ((a : Int) + (b : Int)) / 2 + (m : Int) - (j : Int)) = false := decide_eq_false b5
                  have b6 : ((a : Int) + (b : Int)) / 2 + (m : Int) - (j : Int) < (b : Int) := by omega
                  have bd6 : decide (((a : Int) + (b : Int)) / 2 + (m : Int) - (j : Int) < (b : Int)) = true := decide_eq_true b6
                  have S3 : Hid (SWK enc k w0 blk off d1 wr) := Lib.hid (by rw [← HD1.out, rot_triv d j m _ (by omega)]; exact S1.out)
                  clear S1
                  have HH := Lib.hid (HP.out.half0 (by omega) (by omega) (by omega) h3 (by omega))
                  have HF := Lib.hid (HH.out.done0 (by omega) (by omega) h3 (by omega))
                  go_wp2_with fail
                  go_end0
                  exact ⟨rfl, d1, HF.out, S3.out⟩
                · have b1 : ¬ (j : Int) < (m : Int) := by omega
                  have bd1 : decide ((j : Int) < (m : Int)) = false := decide_eq_false b1
                  have b2 : ¬ (j : Int) < ((a : Int) + (b : Int)) / 2 := by omega
                  have bd2 : decide ((j : Int) < ((a : Int) + (b : Int)) / 2) = false := decide_eq_false b2
                  have b3 : ¬ (a : Int) < (j : Int) := by omega
                  have bd3 : decide ((a : Int) < (j : Int)) = false := decide_eq_false b3
                  have b4 : ¬ (m : Int) < ((a : Int) + (b : Int)) / 2 + (m : Int) - (j : Int) := by omega
                  have bd4 : decide ((m : Int) < ((a : Int) + (b : Int)) / 2 + (m : Int) - (j : Int)) = false := decide_eq_false b4
                  have b5 : ¬ ((a : Int) + (b : Int)) / 2 < ((a : Int) + (b : Int)) / 2 + (m : Int) - (j : Int) := by omega
                  have bd5 : decide (((a : Int) + (b : Int)) / 2 < ((a : Int) + (b : Int)) / 2 + (m : Int) - (j : Int)) = false := decide_eq_false b5
                  have b6 : ¬ ((a : Int) + (b : Int)) / 2 + (m : Int) - (j : Int) < (b : Int) := by omega
                  have bd6 : decide (((a : Int) + (b : Int)) / 2 + (m : Int) - (j : Int) < (b : Int)) = false := decide_eq_false b6
                  have S3 : Hid (SWK enc k w0 blk off d1 wr) := Lib.hid (by rw [← HD1.out, rot_triv d j m _ (by omega)]; exact S1.out)
                  clear S1
                  have HH := Lib.hid (HP.out.half0 (by omega) (by omega) (by omega) h3 (by omega))
                  have HF := Lib.hid (HH.out.done0 (by omega) (by omega) h3 (by omega))
                  go_wp2_with fail
                  go_end0
                  exact ⟨rfl, d1, HF.out, S3.out⟩
end
end Go.Proofs.YtdeeiifcjbmmiaaDoor
