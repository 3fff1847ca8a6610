/-
  slices' stable sort at 'api.Site': stable, SortStableFunc.
-/
import Derived.Test.YtdeeiifcjbmmiaaDoorProg
import Derived.Test.YtdeeiifcjbmmiaaDoorStabP
import Derived.Test.YtdeeiifcjbmmiaaDoorStabSite
import Derived.Shelf.SlSortCmp.PdqK
import Derived.Shelf.SlSortCmp.NoneTotal
namespace Go.Proofs.YtdeeiifcjbmmiaaDoor
open Go.Shelf Go.RowKit Go.Lib Go.Sort
set_option linter.unusedVariables false
set_option linter.unusedSimpArgs false

def siteIns_ren : Go.Shelf.Ren := ⟨fun | 20 => 60 | n => n, fun | 0 => 0 | 3 => 3 | 4 => 4 | 22 => 22 | 24 => 39 | 25 => 62 | n => n, fun | n => n⟩
theorem siteIns : SlLaysF0.n20 Tryd.prog siteIns_ren := {
  mixed := by kernel_rfl,
  f20 := ⟨Tryd.f60.name, by decide, Tryd.func60.trans (congrArg some (by kernel_rfl))⟩,
  t0 := Tryd.underlying0,
  a0 := Tryd.isAgg0,
  z0 := Tryd.sizeOf0,
  v0 := Tryd.zeroValue0,
  t3 := Tryd.underlying3,
  a3 := Tryd.isAgg3,
  z3 := Tryd.sizeOf3,
  v3 := Tryd.zeroValue3,
  t4 := Tryd.underlying4,
  a4 := Tryd.isAgg4,
  z4 := Tryd.sizeOf4,
  v4 := Tryd.zeroValue4,
  t22 := Tryd.underlying22,
  a22 := Tryd.isAgg22,
  z22 := Tryd.sizeOf22,
  v22 := Tryd.zeroValue22,
  t25 := Tryd.underlying62,
  a25 := Tryd.isAgg62,
  z25 := Tryd.sizeOf62,
  v25 := Tryd.zeroValue62 }
section
variable {P : Program} {α : Type} [Inhabited α] {enc : α → List Value} {k : Nat} {w0 : World} {blk off : Nat} {d0 : Array α}
set_option maxHeartbeats 16000000 in
set_option maxRecDepth 1000000 in
theorem StabSiteL.stable (L : StabSiteL P) (LI : SlLaysF0.n20 P siteIns_ren) (aE : ∀ w, (isAgg 39).run P w = .ok true w) (zE : ∀ w, (Go.sizeOf 39).run P w = .ok k w) (cf : α → α → Int) (lt : α → α → Bool) (hw : SWO lt) (hO : SWO (ltOf cf)) (g : Nat) (cb : Array Value) (cap : Nat)
    (eg : ∀ args w, (callFunc g args).run P w = .ok (.enter g args) w) (hcmp : CmpLays P g cb enc k cf blk off d0.size w0) (R : RowK enc k w0 blk off d0) (w : World) (S : SWK enc k w0 blk off d0 w) (hsz : d0.size < 4611686018427387904)
    (hK : ∀ p q, p < q → q < d0.size → lt d0[q]! d0[p]! = decide (cf d0[q]! d0[p]! < 0)) :
    Calls P 43 #[.slice (some ⟨blk, off, none⟩) d0.size cap, .int .i64 d0.size, .func (.func g) #[] cb] w (SymPost enc k w0 blk off lt 0 d0.size d0) := by
  have mixed := L.mixed; have t0 := L.t0; have a0 := L.a0; have z0 := L.z0; have v0 := L.v0; have t3 := L.t3; have a3 := L.a3; have z3 := L.z3; have v3 := L.v3; have t4 := L.t4; have a4 := L.a4; have z4 := L.z4; have v4 := L.v4; have tU := L.tU; have aU := L.aU; have zU := L.zU; have vU := L.vU; have tS := L.tS; have aS := L.aS; have zS := L.zS; have vS := L.vS; have tF := L.tF; have aF := L.aF; have zF := L.zF; have vF := L.vF
  have u0 := run_underlying L.t0; have u3 := run_underlying L.t3; have u4 := run_underlying L.t4; have uU := run_underlying L.tU; have uS := run_underlying L.tS; have uF := run_underlying L.tF

  have eswapRange : ∀ args w, (callFunc 92 args).run P w = .ok (.enter 92 args) w := enters_of L.fswapRange (by kernel_rfl) rfl; have erotate : ∀ args w, (callFunc 79 args).run P w = .ok (.enter 79 args) w := enters_of L.frotate (by kernel_rfl) rfl; have esymMerge : ∀ args w, (callFunc 61 args).run P w = .ok (.enter 61 args) w := enters_of L.fsymMerge (by kernel_rfl) rfl; have estable : ∀ args w, (callFunc 43 args).run P w = .ok (.enter 43 args) w := enters_of L.fstable (by kernel_rfl) rfl
  have eins : ∀ args w, (callFunc 60 args).run P w = .ok (.enter 60 args) w := LI.f20.enters rfl
  have HC := Lib.hid hcmp
  have HW := Lib.hid hw
  have HK := Lib.hid hK
  have HO := Lib.hid hO
  have S0 := Lib.hid S
  clear hcmp hw hK hO S
  go_enter L.fstable, Tryd.ntmps43
  go_wp2_with fail
  go_loopw [7, 8] (fun va vb wr => ∃ (q a : Nat) (dk : Array α), va = .int .i64 a ∧ vb = .int .i64 ((a : Int) + 20) ∧ a ≤ d0.size ∧ Hid (a = q * 20) ∧ dk.size = d0.size ∧ Hid (SWK enc k w0 blk off dk wr) ∧ Hid (Head lt d0 20 a dk)) (fun va _ _ => d0.size - (intOf va).toNat)
  case atStart => exact ⟨0, 0, d0, rfl, rfl, Nat.zero_le _, Lib.hid (Nat.zero_mul 20).symm, rfl, S0, Lib.hid (Head.start _ _ _)⟩
  case round =>
    clear S0
    obtain ⟨q, a, dk, rfl, rfl, han, HA, hsk, S1, H1⟩ := hrel
    by_cases hlt : a + 20 ≤ d0.size
    · have hlti : (a : Int) + 20 ≤ (d0.size : Int) := by omega
      have CI := Lib.hid (AnyQ.insertionSortCmpFunc_w LI k aE zE enc cf g cb blk off cap a (a + 20) d0 dk w0 wr eg HC.out R hsk.symm S1.out HO.out (by omega) (by omega) (by omega))
      rw [hsk, show ((a + 20 : Nat) : Int) = (a : Int) + 20 by omega] at CI
      have CI2 : Hid (Calls P 60 #[.slice (some ⟨blk, off, none⟩) d0.size cap, .int .i64 a, .int .i64 ((a : Int) + 20), .func (.func g) #[] cb] wr fun e w' => e = .returned (.tuple #[]) ∧ SWK enc k w0 blk off (Sort.insertionSort (ltOf cf) dk a (a + 20)) w') := CI
      have H2 := Lib.hid (H1.out.insert' HW.out (by decide) HA.out HK.out (b := a + 20) (by omega) hlt (by omega))
      clear CI
      generalize Sort.insertionSort (ltOf cf) dk a (a + 20) = dk2 at CI2 H2
      go_wp2_with (go_at_fn 60; refine CI2.out.mono ?_; rintro e w2 ⟨rfl, S2⟩)
      have S3 := Lib.hid S2
      clear S2 CI2 S1 H1
      go_wp2_with fail
      go_roundw
      case rel => exact ⟨q + 1, a + 20, dk2, by go_num, by first | rfl | go_num | (congr 1; omega), hlt, Lib.hid (by rw [HA.out, Nat.succ_mul]), H2.out.size, S3, H2⟩
      case measure => first | (simp [intOf]; done) | (simp [intOf]; omega)
    · have hlti : ¬ (a : Int) + 20 ≤ (d0.size : Int) := by omega
      have CI := Lib.hid (AnyQ.insertionSortCmpFunc_w LI k aE zE enc cf g cb blk off cap a d0.size d0 dk w0 wr eg HC.out R hsk.symm S1.out HO.out han (by omega) (by omega))
      rw [hsk] at CI
      have CI2 : Hid (Calls P 60 #[.slice (some ⟨blk, off, none⟩) d0.size cap, .int .i64 a, .int .i64 d0.size, .func (.func g) #[] cb] wr fun e w' => e = .returned (.tuple #[]) ∧ SWK enc k w0 blk off (Sort.insertionSort (ltOf cf) dk a d0.size) w') := CI
      have H2 := Lib.hid ((H1.out.insert' HW.out (by decide) HA.out HK.out (b := d0.size) han (Nat.le_refl _) (by omega)).full (Nat.le_refl _))
      clear CI
      generalize Sort.insertionSort (ltOf cf) dk a d0.size = dk2 at CI2 H2
      go_wp2_with (go_at_fn 60; refine CI2.out.mono ?_; rintro e w2 ⟨rfl, S2⟩)
      have S3 := Lib.hid S2
      clear S2 CI2 S1 H1 HA hlti
      go_wp2_with fail
      go_loopw [6] (fun vs wr => ∃ (s : Nat) (dk : Array α), vs = .int .i64 s ∧ 0 < s ∧ dk.size = d0.size ∧ Hid (SWK enc k w0 blk off dk wr) ∧ Hid (Full lt d0 s dk)) (fun vs _ => d0.size - (intOf vs).toNat)
      case atStart => exact ⟨20, dk2, rfl, by decide, H2.out.size, S3, H2⟩
      case round =>
        clear S3 H2 dk2
        obtain ⟨s, dk, rfl, hs0, hsk, S1, H1⟩ := hrel
        by_cases hlt2 : s < d0.size
        · have hlti : (s : Int) < (d0.size : Int) := by omega
          have H2 := Lib.hid (H1.out.mix hs0)
          go_wp2_with fail
          rename World => wo
          go_loopw [7, 8] (fun va vb wr => ∃ (q a : Nat) (dk : Array α), va = .int .i64 a ∧ vb = .int .i64 ((a : Int) + 2 * (s : Int)) ∧ a ≤ d0.size ∧ Hid (a = q * (2 * s)) ∧ dk.size = d0.size ∧ Hid (SWK enc k w0 blk off dk wr) ∧ Hid (Mix lt d0 s a dk)) (fun va _ _ => d0.size - (intOf va).toNat)
          case atStart => exact ⟨0, 0, dk, rfl, by congr 1; omega, Nat.zero_le _, Lib.hid (Nat.zero_mul _).symm, hsk, S1, H2⟩
          case round =>
            clear S1 H1 H2 hlti hsk dk
            obtain ⟨q, a, dk, rfl, rfl, han, HA, hsk, S1, H1⟩ := hrel
            by_cases h3 : a + 2 * s ≤ d0.size
            · have hlti : (a : Int) + 2 * (s : Int) ≤ (d0.size : Int) := by omega
              have PRE := Lib.hid (H1.out.pre' hs0 HA.out HK.out (b := a + 2 * s) (by omega) h3 (by omega))
              have CM := Lib.hid (L.symMerge aE zE cf lt HW.out g cb cap eg HC.out R (2 * s) a (a + s) (a + 2 * s) dk wr (by omega) (by omega) (by omega) (by omega) hsk.symm (by omega) S1.out PRE.out.1 PRE.out.2.1 PRE.out.2.2)
              rw [hsk, show ((a + s : Nat) : Int) = (a : Int) + (s : Int) by omega, show ((a + 2 * s : Nat) : Int) = (a : Int) + 2 * (s : Int) by omega] at CM
              clear PRE
              go_wp2_with (go_at_fn 61; refine CM.out.mono ?_; rintro e w2 ⟨rfl, d2, ⟨hp, hs2⟩, S2⟩)
              have S3 := Lib.hid S2
              have H2 := Lib.hid (H1.out.merge' hs0 HA.out (b := a + 2 * s) h3 (by omega) (.inl rfl) hp hs2)
              clear S2 CM S1 H1 hp hs2
              go_wp2_with fail
              go_roundw
              case rel => exact ⟨q + 1, a + 2 * s, d2, by first | rfl | go_num | (congr 1; omega), by first | rfl | go_num | (congr 1; omega), h3, Lib.hid (by rw [HA.out]; exact (Nat.succ_mul q (2 * s)).symm), H2.out.size, S3, H2⟩
              case measure => first | (simp [intOf]; done) | (simp [intOf]; omega)
            · have hlti : ¬ (a : Int) + 2 * (s : Int) ≤ (d0.size : Int) := by omega
              by_cases h4 : a + s < d0.size
              · have h4i : (a : Int) + (s : Int) < (d0.size : Int) := by omega
                have PRE := Lib.hid (H1.out.pre' hs0 HA.out HK.out (b := d0.size) h4 (Nat.le_refl _) (by omega))
                have CM := Lib.hid (L.symMerge aE zE cf lt HW.out g cb cap eg HC.out R d0.size a (a + s) d0.size dk wr (by omega) (by omega) h4 (by omega) hsk.symm (by omega) S1.out PRE.out.1 PRE.out.2.1 PRE.out.2.2)
                rw [hsk, show ((a + s : Nat) : Int) = (a : Int) + (s : Int) by omega] at CM
                clear PRE
                go_wp2_with (go_at_fn 61; refine CM.out.mono ?_; rintro e w2 ⟨rfl, d2, ⟨hp, hs2⟩, S2⟩)
                have S3 := Lib.hid S2
                have H2 := Lib.hid ((H1.out.merge' hs0 HA.out (b := d0.size) (Nat.le_refl _) han (.inr ⟨rfl, by omega⟩) hp hs2).full (by omega))
                clear S2 CM S1 H1 hp hs2
                go_wp2_with fail
                go_roundw
                case rel => exact ⟨2 * s, d2, by first | rfl | go_num | (congr 1; omega), by omega, H2.out.size, S3, H2⟩
                case measure => first | (simp [intOf]; done) | (simp [intOf]; omega)
              · have h4i : ¬ (a : Int) + (s : Int) < (d0.size : Int) := by omega
                have H2 := Lib.hid (H1.out.tail' hs0 HA.out (by omega))
                go_wp2_with fail
                go_roundw
                case rel => exact ⟨2 * s, dk, by first | rfl | go_num | (congr 1; omega), by omega, hsk, S1, H2⟩
                case measure => first | (simp [intOf]; done) | (simp [intOf]; omega)
        · have hlti : ¬ (s : Int) < (d0.size : Int) := by omega
          have HF := Lib.hid (H1.out.sorted (by omega))
          go_wp2_with fail
          go_end0
          exact ⟨rfl, dk, HF.out, S1.out⟩
set_option maxHeartbeats 4000000 in
set_option maxRecDepth 1000000 in
theorem StabSiteL.sortStable (L : StabSiteL P) (LI : SlLaysF0.n20 P siteIns_ren) (hSS : P.funcs[29]? = some Tryd.f29) (aE : ∀ w, (isAgg 39).run P w = .ok true w) (zE : ∀ w, (Go.sizeOf 39).run P w = .ok k w) (cf : α → α → Int) (lt : α → α → Bool) (hw : SWO lt) (hO : SWO (ltOf cf)) (g : Nat) (cb : Array Value) (cap : Nat)
    (eg : ∀ args w, (callFunc g args).run P w = .ok (.enter g args) w) (hcmp : CmpLays P g cb enc k cf blk off d0.size w0) (hk : ∀ x, (enc x).length = k) (h1 : ∀ x, ∀ v ∈ enc x, v.oneCell' = true) (hH : HoldsK enc k w0 blk off d0) (hblk : blk < w0.heap.size) (hsz : d0.size < 4611686018427387904)
    (hK : ∀ p q, p < q → q < d0.size → lt d0[q]! d0[p]! = decide (cf d0[q]! d0[p]! < 0)) :
    Calls P 29 #[.slice (some ⟨blk, off, none⟩) d0.size cap, .func (.func g) #[] cb] w0 (SymPost enc k w0 blk off lt 0 d0.size d0) := by
  have mixed := L.mixed; have t0 := L.t0; have a0 := L.a0; have z0 := L.z0; have v0 := L.v0; have t3 := L.t3; have a3 := L.a3; have z3 := L.z3; have v3 := L.v3; have t4 := L.t4; have a4 := L.a4; have z4 := L.z4; have v4 := L.v4; have tU := L.tU; have aU := L.aU; have zU := L.zU; have vU := L.vU; have tS := L.tS; have aS := L.aS; have zS := L.zS; have vS := L.vS; have tF := L.tF; have aF := L.aF; have zF := L.zF; have vF := L.vF
  have u0 := run_underlying L.t0; have u3 := run_underlying L.t3; have u4 := run_underlying L.t4; have uU := run_underlying L.tU; have uS := run_underlying L.tS; have uF := run_underlying L.tF

  have eswapRange : ∀ args w, (callFunc 92 args).run P w = .ok (.enter 92 args) w := enters_of L.fswapRange (by kernel_rfl) rfl; have erotate : ∀ args w, (callFunc 79 args).run P w = .ok (.enter 79 args) w := enters_of L.frotate (by kernel_rfl) rfl; have esymMerge : ∀ args w, (callFunc 61 args).run P w = .ok (.enter 61 args) w := enters_of L.fsymMerge (by kernel_rfl) rfl; have estable : ∀ args w, (callFunc 43 args).run P w = .ok (.enter 43 args) w := enters_of L.fstable (by kernel_rfl) rfl
  have hcon := Lib.hid (L.stable LI aE zE cf lt hw hO g cb cap eg hcmp ⟨hk, h1, hH, hblk⟩ w0 (SWK.start hH) hsz hK)
  clear hcmp hK hH hw hO
  go_enter hSS, Tryd.ntmps29
  go_wp2_with (go_at_fn 43; refine hcon.out.mono ?_; rintro e w2 ⟨rfl, d2, hp, S2⟩)
  have HD := Lib.hid (And.intro hp S2)
  clear hp S2 hcon
  go_wp2_with fail
  go_end0
  exact ⟨rfl, d2, HD.out.1, HD.out.2⟩
set_option maxHeartbeats 4000000 in
set_option maxRecDepth 1000000 in
theorem StabSiteL.sortNone (L : StabSiteL P) (LI : SlLaysF0.n20 P siteIns_ren) (hSS : P.funcs[29]? = some Tryd.f29) (p : Option Addr) (cap : Nat) (fv : Value) (w : World) :
    Calls P 29 #[.slice p 0 cap, fv] w fun e w' => e = .returned (.tuple #[]) ∧ w' = w := by
  have mixed := L.mixed; have t0 := L.t0; have a0 := L.a0; have z0 := L.z0; have v0 := L.v0; have t3 := L.t3; have a3 := L.a3; have z3 := L.z3; have v3 := L.v3; have t4 := L.t4; have a4 := L.a4; have z4 := L.z4; have v4 := L.v4; have tU := L.tU; have aU := L.aU; have zU := L.zU; have vU := L.vU; have tS := L.tS; have aS := L.aS; have zS := L.zS; have vS := L.vS; have tF := L.tF; have aF := L.aF; have zF := L.zF; have vF := L.vF
  have u0 := run_underlying L.t0; have u3 := run_underlying L.t3; have u4 := run_underlying L.t4; have uU := run_underlying L.tU; have uS := run_underlying L.tS; have uF := run_underlying L.tF

  have eswapRange : ∀ args w, (callFunc 92 args).run P w = .ok (.enter 92 args) w := enters_of L.fswapRange (by kernel_rfl) rfl; have erotate : ∀ args w, (callFunc 79 args).run P w = .ok (.enter 79 args) w := enters_of L.frotate (by kernel_rfl) rfl; have esymMerge : ∀ args w, (callFunc 61 args).run P w = .ok (.enter 61 args) w := enters_of L.fsymMerge (by kernel_rfl) rfl; have estable : ∀ args w, (callFunc 43 args).run P w = .ok (.enter 43 args) w := enters_of L.fstable (by kernel_rfl) rfl
  have eins : ∀ args w, (callFunc 60 args).run P w = .ok (.enter 60 args) w := LI.f20.enters rfl
  have hst : Hid (Calls P 43 #[.slice p 0 cap, .int .i64 0, fv] w fun e w' => e = .returned (.tuple #[]) ∧ w' = w) := Lib.hid (by
    have hin : Calls P 60 #[.slice p 0 cap, .int .i64 0, .int .i64 0, fv] w fun e w' => e = .returned (.tuple #[]) ∧ w' = w := AnyF.insertionSortCmpFunc_none LI p cap fv w
    have HIN := Lib.hid hin
    clear hin
    go_enter L.fstable, Tryd.ntmps43
    go_wp2_with fail
    go_loopw [7, 8] (fun va vb wr => va = .int .i64 0 ∧ vb = .int .i64 20 ∧ wr = w) (fun _ _ _ => 0)
    case atStart => exact ⟨rfl, rfl, rfl⟩
    case round =>
      obtain ⟨rfl, rfl, rfl⟩ := hrel
      go_wp2_with (go_at_fn 60; refine HIN.out.mono ?_; rintro e w2 ⟨rfl, rfl⟩)
      go_loopw [6] (fun va wx => va = .int .i64 20 ∧ wx = w2) (fun _ _ => 0)
      case atStart => exact ⟨rfl, rfl⟩
      case round =>
        obtain ⟨rfl, rfl⟩ := hrel
        go_wp2_with fail
        go_end0
        exact ⟨rfl, rfl⟩)
  go_enter hSS, Tryd.ntmps29
  go_wp2_with (go_at_fn 43; refine hst.out.mono ?_; rintro e w2 ⟨rfl, rfl⟩)
  go_end0
  exact ⟨rfl, rfl⟩
end
end Go.Proofs.YtdeeiifcjbmmiaaDoor
