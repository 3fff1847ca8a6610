/-
  slices.Sort's family at uint64, part 3: the partitions.
-/
import Derived.Test.YtnkdcmibafjplaaGreatDoorU64
import Derived.Sort.WalkC4
import Derived.Deep.Cut
import Derived.Deep.CutRange
import Derived.Deep.CutBlock
namespace Go.Proofs.YtnkdcmibafjplaaGreatDoor
open Go.Shelf Go.RowKit Go.Lib Go.Sort
set_option linter.unusedVariables false
set_option linter.unusedSimpArgs false

theorem scanUp_max (p : Int → Bool) (d : Array Int) (j i : Nat) (h : i ≤ j + 1) {q : Nat} (hq : q = scanUp p d j i) : q ≤ j + 1 := by
  subst hq
  exact (scanUp_spec p d j _ i rfl).2.1 h
theorem scanDown_min (p : Int → Bool) (d : Array Int) (i j : Nat) (h : i ≤ j + 1) {q : Nat} (hq : q = scanDown p d i j) : i ≤ q + 1 := by
  subst hq
  exact (scanDown_spec p d i j).2.1 h
set_option maxHeartbeats 4000000 in
set_option maxRecDepth 1000000 in
theorem partEq64 (n blk off cap a b pv : Nat) (d0 d : Array Int) (w0 w : World) (R : RowU w0 blk off d0) (hs0 : d0.size = n) (hs : d.size = n) (S : SW encU w0 blk off d w) (hsz : n < 4611686018427387904) (hap : a ≤ pv) (hpb : pv < b) (hb : b ≤ n) :
    Calls Tryz.prog 131 #[.slice (some ⟨blk, off, none⟩) n cap, .int .i64 a, .int .i64 b, .int .i64 pv] w fun e w' => e = .returned (.int .i64 (Sort.partitionEqual ltInt d a b pv).1) ∧ SW encU w0 blk off (Sort.partitionEqual ltInt d a b pv).2 w' := by
  have mixed : Tryz.prog.follows .mixedOrders = true := by kernel_rfl
  have S0 := Lib.hid S
  clear S
  have ra1 : IntKind.i64.wrap ((a : Int) + 1) = (a : Int) + 1 := by rw [IntKind.wrap_i64]; omega
  have rb1 : IntKind.i64.wrap ((b : Int) - 1) = (b : Int) - 1 := by rw [IntKind.wrap_i64]; omega
  go_enter Tryz.func131, Tryz.ntmps131
  go_wp2_with fail
  obtain ⟨iN, hiN⟩ : ∃ zz, zz = a := ⟨_, rfl⟩
  obtain ⟨jN, hjN⟩ : ∃ zz, zz = pv := ⟨_, rfl⟩
  have ei : ((a : Int) : Int).toNat = iN := by omega
  have pi : (0 : Int) ≤ ((a : Int) : Int) := by omega
  have bi : ((a : Int) : Int) < (n : Int) := by omega
  have ri : IntKind.i64.wrap ((a : Int) : Int) = ((a : Int) : Int) := by rw [IntKind.wrap_i64]; omega
  have ej : ((pv : Int) : Int).toNat = jN := by omega
  have pj : (0 : Int) ≤ ((pv : Int) : Int) := by omega
  have bj : ((pv : Int) : Int) < (n : Int) := by omega
  have rj : IntKind.i64.wrap ((pv : Int) : Int) = ((pv : Int) : Int) := by rw [IntKind.wrap_i64]; omega
  obtain ⟨x, hx⟩ : ∃ zz, zz = d[a]! := ⟨_, rfl⟩
  obtain ⟨y, hy⟩ : ∃ zz, zz = d[pv]! := ⟨_, rfl⟩
  have S1 : Hid (SW encU w0 blk off (swp d (a) (pv)) ((w.setCell ⟨blk, off + iN, none⟩ (.int .u64 y)).setCell ⟨blk, off + jN, none⟩ (.int .u64 x)).drew) := Lib.hid (by rw [hiN, hjN, hx, hy]; exact swsw S0.out R (a) (pv) (by omega) (by omega))
  have ca := swc S0.out R (by omega) (a) (by omega)
  have cb := swc S0.out R (by omega) (pv) (by omega)
  have fa := swf S0.out R (by omega) (a) (by omega)
  have fb := swf S0.out R (by omega) (pv) (by omega)
  obtain ⟨u, cc⟩ := swc2 S0.out R (by omega) (a) (pv) (by omega) (by omega) (.int .u64 y)
  rw [← hjN, ← hiN] at cc
  rw [← hx, ← hiN] at ca
  rw [← hy, ← hjN] at cb
  rw [← hiN] at fa
  rw [← hjN] at fb
  clear S0 hx hy hiN hjN
  go_wp2_with fail
  go_big_region_o
  clear ca cb cc fa fb
  generalize ((w.setCell ⟨blk, off + iN, none⟩ (.int .u64 y)).setCell ⟨blk, off + jN, none⟩ (.int .u64 x)).drew = w1 at S1 ⊢
  clear ei pi bi ri ej pj bj rj
  go_wp2_with fail
  obtain ⟨d1, hd1⟩ : ∃ d1, d1 = swp d a pv := ⟨_, rfl⟩
  have hs1 : d1.size = n := by rw [hd1, size_swp]; exact hs
  have HD : Hid (Sort.partitionEqual ltInt d a b pv = partEqLoop ltInt a (a + 1) (b - 1) d1) := Lib.hid (by rw [hd1]; rfl)
  rw [← hd1] at S1
  clear hd1
  go_loopw [9, 10] (fun vi vj wr => ∃ (i j : Nat) (dk : Array Int), vi = .int .i64 i ∧ vj = .int .i64 j ∧ a < i ∧ i ≤ j + 1 ∧ j < b ∧ dk.size = n ∧ Hid (SW encU w0 blk off dk wr) ∧ Hid (partEqLoop ltInt a i j dk = partEqLoop ltInt a (a + 1) (b - 1) d1)) (fun vi vj _ => (intOf vj + 1 - intOf vi).toNat)
  case atStart => exact ⟨a + 1, b - 1, d1, by go_num, by first | rfl | (congr 1; omega), by omega, by omega, by omega, hs1, S1, rfl⟩
  case round =>
    clear S1
    obtain ⟨i, j, dk, rfl, rfl, hai, hij, hjb, hsk, S2, HO⟩ := hrel
    obtain ⟨i2, hi2⟩ : ∃ q, q = scanUp (fun x => !ltInt dk[a]! x) dk j i := ⟨_, rfl⟩
    have Hi2 := Lib.hid hi2
    have mi2 := scanUp_ge (fun x => !ltInt dk[a]! x) dk j i
    rw [← hi2] at mi2
    clear hi2
    go_upto_block 2 with fail
    go_cut [9] from 29 to 82 (fun sq wc => sq = .int .i64 i2 ∧ Hid (SW encU w0 blk off dk wc))
    case first =>
      go_wp2_with fail
      go_loopw [9] (fun vq wy => ∃ q : Nat, vq = .int .i64 q ∧ i ≤ q ∧ q ≤ j + 1 ∧ Hid (SW encU w0 blk off dk wy) ∧ Hid (scanUp (fun x => !ltInt dk[a]! x) dk j q = i2)) (fun vq _ => j + 1 - (intOf vq).toNat)
      case atStart => exact ⟨i, rfl, by omega, by omega, S2, Lib.hid Hi2.out.symm⟩
      case round =>
        clear S2
        obtain ⟨q, rfl, hq1, hq2, SA, HQ⟩ := hrel
        by_cases hc : q ≤ j
        · have hcz : (q : Int) ≤ (j : Int) := by omega
          cases hlv : ltInt dk[a]! dk[q]! with
          | true =>
            obtain ⟨iN, hiN⟩ : ∃ zz, zz = a := ⟨_, rfl⟩
            obtain ⟨jN, hjN⟩ : ∃ zz, zz = q := ⟨_, rfl⟩
            have ei : ((a : Int) : Int).toNat = iN := by omega
            have pi : (0 : Int) ≤ ((a : Int) : Int) := by omega
            have bi : ((a : Int) : Int) < (n : Int) := by omega
            have ri : IntKind.i64.wrap ((a : Int) : Int) = ((a : Int) : Int) := by rw [IntKind.wrap_i64]; omega
            have ej : ((q : Int) : Int).toNat = jN := by omega
            have pj : (0 : Int) ≤ ((q : Int) : Int) := by omega
            have bj : ((q : Int) : Int) < (n : Int) := by omega
            have rj : IntKind.i64.wrap ((q : Int) : Int) = ((q : Int) : Int) := by rw [IntKind.wrap_i64]; omega
            obtain ⟨x, hx⟩ : ∃ zz, zz = dk[a]! := ⟨_, rfl⟩
            obtain ⟨y, hy⟩ : ∃ zz, zz = dk[q]! := ⟨_, rfl⟩
            have la := swc SA.out R (by omega) (a) (by omega)
            have lb := swc SA.out R (by omega) (q) (by omega)
            rw [← hx, ← hiN] at la
            rw [← hy, ← hjN] at lb
            have hd : decide (x < y) = true := by rw [hx, hy]; exact hlv
            have hd2 : x < y := of_decide_eq_true hd
            clear hx hy hiN hjN
            go_wp2_with fail
            go_quiet (first | (go_at_call 130; refine Calls.quiet_of_same (less64 _ _ _)))
            have SB : Hid (SW encU w0 blk off dk (wr.drewN nq)) := Lib.hid (SA.out.drewN nq)
            clear la lb SA hd hd2
            generalize wr.drewN nq = wb at SB ⊢
            clear nq
            clear ei pi bi ri ej pj bj rj
            have HE : Hid (i2 = q) := Lib.hid (HQ.out.symm.trans (scanUp_end _ _ _ _ (.inr (by simp only [hlv, Bool.not_false, Bool.not_true]))))
            go_wp2_with fail
            go_meet
            case rel => exact ⟨by rw [HE.out], SB⟩
          | false =>
            obtain ⟨iN, hiN⟩ : ∃ zz, zz = a := ⟨_, rfl⟩
            obtain ⟨jN, hjN⟩ : ∃ zz, zz = q := ⟨_, rfl⟩
            have ei : ((a : Int) : Int).toNat = iN := by omega
            have pi : (0 : Int) ≤ ((a : Int) : Int) := by omega
            have bi : ((a : Int) : Int) < (n : Int) := by omega
            have ri : IntKind.i64.wrap ((a : Int) : Int) = ((a : Int) : Int) := by rw [IntKind.wrap_i64]; omega
            have ej : ((q : Int) : Int).toNat = jN := by omega
            have pj : (0 : Int) ≤ ((q : Int) : Int) := by omega
            have bj : ((q : Int) : Int) < (n : Int) := by omega
            have rj : IntKind.i64.wrap ((q : Int) : Int) = ((q : Int) : Int) := by rw [IntKind.wrap_i64]; omega
            obtain ⟨x, hx⟩ : ∃ zz, zz = dk[a]! := ⟨_, rfl⟩
            obtain ⟨y, hy⟩ : ∃ zz, zz = dk[q]! := ⟨_, rfl⟩
            have la := swc SA.out R (by omega) (a) (by omega)
            have lb := swc SA.out R (by omega) (q) (by omega)
            rw [← hx, ← hiN] at la
            rw [← hy, ← hjN] at lb
            have hd : decide (x < y) = false := by rw [hx, hy]; exact hlv
            have hd2 : ¬ x < y := of_decide_eq_false hd
            clear hx hy hiN hjN
            go_wp2_with fail
            go_quiet (first | (go_at_call 130; refine Calls.quiet_of_same (less64 _ _ _)))
            have SB : Hid (SW encU w0 blk off dk (wr.drewN nq)) := Lib.hid (SA.out.drewN nq)
            clear la lb SA hd hd2
            generalize wr.drewN nq = wb at SB ⊢
            clear nq
            clear ei pi bi ri ej pj bj rj
            go_wp2_with fail
            go_roundw
            case rel => exact ⟨q + 1, by go_num, by omega, by omega, SB, Lib.hid (by rw [← HQ.out, scanUp_go _ _ _ _ hc (by simp only [hlv, Bool.not_false, Bool.not_true])])⟩
            case measure => first | (simp [intOf]; done) | (simp [intOf]; omega)
        · have hcz : ¬ (q : Int) ≤ (j : Int) := by omega
          have hcd : decide ((q : Int) ≤ (j : Int)) = false := decide_eq_false hcz
          have HE : Hid (i2 = q) := Lib.hid (HQ.out.symm.trans (scanUp_end _ _ _ _ (.inl hc)))
          go_wp2_with fail
          go_quiet (fail)
          have SB : Hid (SW encU w0 blk off dk (wr.drewN nq)) := Lib.hid (SA.out.drewN nq)
          clear SA
          generalize wr.drewN nq = wb at SB ⊢
          go_wp2_with fail
          go_meet
          case rel => exact ⟨by rw [HE.out], SB⟩
    case rest =>
      clear S2
      obtain ⟨rfl, S3⟩ := hcut
      have hm1 : i2 ≤ j + 1 := scanUp_max _ _ _ _ hij Hi2.out
      obtain ⟨j2, hj2⟩ : ∃ q, q = scanDown (fun x => ltInt dk[a]! x) dk i2 j := ⟨_, rfl⟩
      have Hj2 := Lib.hid hj2
      have mj2 := scanDown_le (fun x => ltInt dk[a]! x) dk i2 j
      rw [← hj2] at mj2
      clear hj2
      go_upto_block 4 with fail
      go_cut [10] from 29 to 82 (fun sq wc => sq = .int .i64 j2 ∧ Hid (SW encU w0 blk off dk wc))
      case first =>
        go_wp2_with fail
        go_loopw [10] (fun vq wy => ∃ q : Nat, vq = .int .i64 q ∧ i2 ≤ q + 1 ∧ q ≤ j ∧ Hid (SW encU w0 blk off dk wy) ∧ Hid (scanDown (fun x => ltInt dk[a]! x) dk i2 q = j2)) (fun vq _ => (intOf vq).toNat)
        case atStart => exact ⟨j, rfl, by omega, by omega, S3, Lib.hid Hj2.out.symm⟩
        case round =>
          clear S3
          obtain ⟨q, rfl, hq1, hq2, SA, HQ⟩ := hrel
          by_cases hc : i2 ≤ q
          · have hcz : (i2 : Int) ≤ (q : Int) := by omega
            cases hlv : ltInt dk[a]! dk[q]! with
            | true =>
              obtain ⟨iN, hiN⟩ : ∃ zz, zz = a := ⟨_, rfl⟩
              obtain ⟨jN, hjN⟩ : ∃ zz, zz = q := ⟨_, rfl⟩
              have ei : ((a : Int) : Int).toNat = iN := by omega
              have pi : (0 : Int) ≤ ((a : Int) : Int) := by omega
              have bi : ((a : Int) : Int) < (n : Int) := by omega
              have ri : IntKind.i64.wrap ((a : Int) : Int) = ((a : Int) : Int) := by rw [IntKind.wrap_i64]; omega
              have ej : ((q : Int) : Int).toNat = jN := by omega
              have pj : (0 : Int) ≤ ((q : Int) : Int) := by omega
              have bj : ((q : Int) : Int) < (n : Int) := by omega
              have rj : IntKind.i64.wrap ((q : Int) : Int) = ((q : Int) : Int) := by rw [IntKind.wrap_i64]; omega
              obtain ⟨x, hx⟩ : ∃ zz, zz = dk[a]! := ⟨_, rfl⟩
              obtain ⟨y, hy⟩ : ∃ zz, zz = dk[q]! := ⟨_, rfl⟩
              have la := swc SA.out R (by omega) (a) (by omega)
              have lb := swc SA.out R (by omega) (q) (by omega)
              rw [← hx, ← hiN] at la
              rw [← hy, ← hjN] at lb
              have hd : decide (x < y) = true := by rw [hx, hy]; exact hlv
              have hd2 : x < y := of_decide_eq_true hd
              clear hx hy hiN hjN
              go_wp2_with fail
              go_quiet (first | (go_at_call 130; refine Calls.quiet_of_same (less64 _ _ _)))
              have SB : Hid (SW encU w0 blk off dk (wr.drewN nq)) := Lib.hid (SA.out.drewN nq)
              clear la lb SA hd hd2
              generalize wr.drewN nq = wb at SB ⊢
              clear nq
              clear ei pi bi ri ej pj bj rj
              go_wp2_with fail
              go_roundw
              case rel => exact ⟨q - 1, by first | go_num | (congr 1; omega), by omega, by omega, SB, Lib.hid (by rw [← HQ.out, scanDown_go _ _ _ _ hc (by omega) (by simp only [hlv, Bool.not_false, Bool.not_true])])⟩
              case measure => first | (simp [intOf]; done) | (simp [intOf]; omega)
            | false =>
              obtain ⟨iN, hiN⟩ : ∃ zz, zz = a := ⟨_, rfl⟩
              obtain ⟨jN, hjN⟩ : ∃ zz, zz = q := ⟨_, rfl⟩
              have ei : ((a : Int) : Int).toNat = iN := by omega
              have pi : (0 : Int) ≤ ((a : Int) : Int) := by omega
              have bi : ((a : Int) : Int) < (n : Int) := by omega
              have ri : IntKind.i64.wrap ((a : Int) : Int) = ((a : Int) : Int) := by rw [IntKind.wrap_i64]; omega
              have ej : ((q : Int) : Int).toNat = jN := by omega
              have pj : (0 : Int) ≤ ((q : Int) : Int) := by omega
              have bj : ((q : Int) : Int) < (n : Int) := by omega
              have rj : IntKind.i64.wrap ((q : Int) : Int) = ((q : Int) : Int) := by rw [IntKind.wrap_i64]; omega
              obtain ⟨x, hx⟩ : ∃ zz, zz = dk[a]! := ⟨_, rfl⟩
              obtain ⟨y, hy⟩ : ∃ zz, zz = dk[q]! := ⟨_, rfl⟩
              have la := swc SA.out R (by omega) (a) (by omega)
              have lb := swc SA.out R (by omega) (q) (by omega)
              rw [← hx, ← hiN] at la
              rw [← hy, ← hjN] at lb
              have hd : decide (x < y) = false := by rw [hx, hy]; exact hlv
              have hd2 : ¬ x < y := of_decide_eq_false hd
              clear hx hy hiN hjN
              go_wp2_with fail
              go_quiet (first | (go_at_call 130; refine Calls.quiet_of_same (less64 _ _ _)))
              have SB : Hid (SW encU w0 blk off dk (wr.drewN nq)) := Lib.hid (SA.out.drewN nq)
              clear la lb SA hd hd2
              generalize wr.drewN nq = wb at SB ⊢
              clear nq
              clear ei pi bi ri ej pj bj rj
              have HE : Hid (j2 = q) := Lib.hid (HQ.out.symm.trans (scanDown_end _ _ _ _ (.inr (by simp only [hlv, Bool.not_false, Bool.not_true]))))
              go_wp2_with fail
              go_meet
              case rel => exact ⟨by rw [HE.out], SB⟩
          · have hcz : ¬ (i2 : Int) ≤ (q : Int) := by omega
            have hcd : decide ((i2 : Int) ≤ (q : Int)) = false := decide_eq_false hcz
            have HE : Hid (j2 = q) := Lib.hid (HQ.out.symm.trans (scanDown_end _ _ _ _ (.inl hc)))
            go_wp2_with fail
            go_quiet (fail)
            have SB : Hid (SW encU w0 blk off dk (wr.drewN nq)) := Lib.hid (SA.out.drewN nq)
            clear SA
            generalize wr.drewN nq = wb at SB ⊢
            go_wp2_with fail
            go_meet
            case rel => exact ⟨by rw [HE.out], SB⟩
      case rest =>
        clear S3
        obtain ⟨rfl, S4⟩ := hcut
        have hm2 : i2 ≤ j2 + 1 := scanDown_min _ _ _ _ hm1 Hj2.out
        by_cases hgt : j2 < i2
        · have hgz : (j2 : Int) < (i2 : Int) := by omega
          have HB := Lib.hid (partEq_break ltInt a i j dk Hi2.out Hj2.out hgt)
          go_wp2_with fail
          go_ret
          exact ⟨by rw [HD.out, ← HO.out, HB.out]; rfl, by rw [HD.out, ← HO.out, HB.out]; exact S4.out⟩
        · have hgz : ¬ (j2 : Int) < (i2 : Int) := by omega
          have hij2 := scans_lt ltInt a i j dk (by omega) Hi2.out Hj2.out (by omega)
          have HG := Lib.hid (partEq_go ltInt a i j dk Hi2.out Hj2.out (by omega))
          go_wp2_with fail
          obtain ⟨iN, hiN⟩ : ∃ zz, zz = i2 := ⟨_, rfl⟩
          obtain ⟨jN, hjN⟩ : ∃ zz, zz = j2 := ⟨_, rfl⟩
          have ei : ((i2 : Int) : Int).toNat = iN := by omega
          have pi : (0 : Int) ≤ ((i2 : Int) : Int) := by omega
          have bi : ((i2 : Int) : Int) < (n : Int) := by omega
          have ri : IntKind.i64.wrap ((i2 : Int) : Int) = ((i2 : Int) : Int) := by rw [IntKind.wrap_i64]; omega
          have ej : ((j2 : Int) : Int).toNat = jN := by omega
          have pj : (0 : Int) ≤ ((j2 : Int) : Int) := by omega
          have bj : ((j2 : Int) : Int) < (n : Int) := by omega
          have rj : IntKind.i64.wrap ((j2 : Int) : Int) = ((j2 : Int) : Int) := by rw [IntKind.wrap_i64]; omega
          obtain ⟨x, hx⟩ : ∃ zz, zz = dk[i2]! := ⟨_, rfl⟩
          obtain ⟨y, hy⟩ : ∃ zz, zz = dk[j2]! := ⟨_, rfl⟩
          have S5 : Hid (SW encU w0 blk off (swp dk (i2) (j2)) ((wc.setCell ⟨blk, off + iN, none⟩ (.int .u64 y)).setCell ⟨blk, off + jN, none⟩ (.int .u64 x)).drew) := Lib.hid (by rw [hiN, hjN, hx, hy]; exact swsw S4.out R (i2) (j2) (by omega) (by omega))
          have ca := swc S4.out R (by omega) (i2) (by omega)
          have cb := swc S4.out R (by omega) (j2) (by omega)
          have fa := swf S4.out R (by omega) (i2) (by omega)
          have fb := swf S4.out R (by omega) (j2) (by omega)
          obtain ⟨u, cc⟩ := swc2 S4.out R (by omega) (i2) (j2) (by omega) (by omega) (.int .u64 y)
          rw [← hjN, ← hiN] at cc
          rw [← hx, ← hiN] at ca
          rw [← hy, ← hjN] at cb
          rw [← hiN] at fa
          rw [← hjN] at fb
          clear S4 hx hy hiN hjN
          go_wp2_with fail
          go_big_region_o
          clear ca cb cc fa fb
          generalize ((wc.setCell ⟨blk, off + iN, none⟩ (.int .u64 y)).setCell ⟨blk, off + jN, none⟩ (.int .u64 x)).drew = w5 at S5 ⊢
          clear ei pi bi ri ej pj bj rj
          have ri2 : IntKind.i64.wrap ((i2 : Int) + 1) = (i2 : Int) + 1 := by rw [IntKind.wrap_i64]; omega
          have rj2 : IntKind.i64.wrap ((j2 : Int) - 1) = (j2 : Int) - 1 := by rw [IntKind.wrap_i64]; omega
          go_wp2_with fail
          go_roundw
          case rel => exact ⟨i2 + 1, j2 - 1, swp dk i2 j2, by go_num, by first | go_num | (congr 1; omega), by omega, by omega, by omega, by rw [size_swp]; exact hsk, S5, Lib.hid (by rw [← HO.out, HG.out])⟩
          case measure => first | (simp [intOf]; done) | (simp [intOf]; omega)
set_option maxHeartbeats 8000000 in
set_option maxRecDepth 1000000 in
theorem part64 (n blk off cap a b pv : Nat) (d0 d : Array Int) (w0 w : World) (R : RowU w0 blk off d0) (hs0 : d0.size = n) (hs : d.size = n) (S : SW encU w0 blk off d w) (hsz : n < 4611686018427387904) (hap : a ≤ pv) (hpb : pv < b) (hb : b ≤ n) :
    Calls Tryz.prog 132 #[.slice (some ⟨blk, off, none⟩) n cap, .int .i64 a, .int .i64 b, .int .i64 pv] w fun e w' => e = .returned (.tuple #[.int .i64 (Sort.partition ltInt d a b pv).1, .bool (Sort.partition ltInt d a b pv).2.1]) ∧ SW encU w0 blk off (Sort.partition ltInt d a b pv).2.2 w' := by
  have mixed : Tryz.prog.follows .mixedOrders = true := by kernel_rfl
  have S0 := Lib.hid S
  clear S
  have ra1 : IntKind.i64.wrap ((a : Int) + 1) = (a : Int) + 1 := by rw [IntKind.wrap_i64]; omega
  have rb1 : IntKind.i64.wrap ((b : Int) - 1) = (b : Int) - 1 := by rw [IntKind.wrap_i64]; omega
  go_enter Tryz.func132, Tryz.ntmps132
  go_wp2_with fail
  obtain ⟨iN, hiN⟩ : ∃ zz, zz = a := ⟨_, rfl⟩
  obtain ⟨jN, hjN⟩ : ∃ zz, zz = pv := ⟨_, rfl⟩
  have ei : ((a : Int) : Int).toNat = iN := by omega
  have pi : (0 : Int) ≤ ((a : Int) : Int) := by omega
  have bi : ((a : Int) : Int) < (n : Int) := by omega
  have ri : IntKind.i64.wrap ((a : Int) : Int) = ((a : Int) : Int) := by rw [IntKind.wrap_i64]; omega
  have ej : ((pv : Int) : Int).toNat = jN := by omega
  have pj : (0 : Int) ≤ ((pv : Int) : Int) := by omega
  have bj : ((pv : Int) : Int) < (n : Int) := by omega
  have rj : IntKind.i64.wrap ((pv : Int) : Int) = ((pv : Int) : Int) := by rw [IntKind.wrap_i64]; omega
  obtain ⟨x, hx⟩ : ∃ zz, zz = d[a]! := ⟨_, rfl⟩
  obtain ⟨y, hy⟩ : ∃ zz, zz = d[pv]! := ⟨_, rfl⟩
  have S1 : Hid (SW encU w0 blk off (swp d (a) (pv)) ((w.setCell ⟨blk, off + iN, none⟩ (.int .u64 y)).setCell ⟨blk, off + jN, none⟩ (.int .u64 x)).drew) := Lib.hid (by rw [hiN, hjN, hx, hy]; exact swsw S0.out R (a) (pv) (by omega) (by omega))
  have ca := swc S0.out R (by omega) (a) (by omega)
  have cb := swc S0.out R (by omega) (pv) (by omega)
  have fa := swf S0.out R (by omega) (a) (by omega)
  have fb := swf S0.out R (by omega) (pv) (by omega)
  obtain ⟨u, cc⟩ := swc2 S0.out R (by omega) (a) (pv) (by omega) (by omega) (.int .u64 y)
  rw [← hjN, ← hiN] at cc
  rw [← hx, ← hiN] at ca
  rw [← hy, ← hjN] at cb
  rw [← hiN] at fa
  rw [← hjN] at fb
  clear S0 hx hy hiN hjN
  go_wp2_with fail
  go_big_region_o
  clear ca cb cc fa fb
  generalize ((w.setCell ⟨blk, off + iN, none⟩ (.int .u64 y)).setCell ⟨blk, off + jN, none⟩ (.int .u64 x)).drew = w1 at S1 ⊢
  clear ei pi bi ri ej pj bj rj
  go_upto_block 0 with fail
  obtain ⟨dk, hdk⟩ : ∃ d1, d1 = swp d a pv := ⟨_, rfl⟩
  have hsk : dk.size = n := by rw [hdk, size_swp]; exact hs
  have HDK := Lib.hid hdk
  rw [← hdk] at S1
  clear hdk
  obtain ⟨j, hj⟩ : ∃ j, j = b - 1 := ⟨_, rfl⟩
  obtain ⟨i, hi⟩ : ∃ i, i = a + 1 := ⟨_, rfl⟩
  have hjz : (b : Int) - 1 = (j : Int) := by omega
  have hiz : (a : Int) + 1 = (i : Int) := by omega
  have HI0 := Lib.hid hi
  have HJ0 := Lib.hid hj
  have hai : a < i := by omega
  have hij : i ≤ j + 1 := by omega
  have hjb : j < b := by omega
  rw [hjz, hiz]
  clear hi hj hjz hiz ra1 rb1
  obtain ⟨i2, hi2⟩ : ∃ q, q = scanUp (fun x => ltInt x dk[a]!) dk j i := ⟨_, rfl⟩
  have Hi2 := Lib.hid hi2
  have mi2 := scanUp_ge (fun x => ltInt x dk[a]!) dk j i
  rw [← hi2] at mi2
  clear hi2
  go_upto_block 0 with fail
  go_cut [10] from 12 (fun sq wc => sq = .int .i64 i2 ∧ Hid (SW encU w0 blk off dk wc))
  case first =>
    go_wp2_with fail
    go_loopw [10] (fun vq wy => ∃ q : Nat, vq = .int .i64 q ∧ i ≤ q ∧ q ≤ j + 1 ∧ Hid (SW encU w0 blk off dk wy) ∧ Hid (scanUp (fun x => ltInt x dk[a]!) dk j q = i2)) (fun vq _ => j + 1 - (intOf vq).toNat)
    case atStart => exact ⟨i, rfl, by omega, by omega, S1, Lib.hid Hi2.out.symm⟩
    case round =>
      clear S1
      obtain ⟨q, rfl, hq1, hq2, SA, HQ⟩ := hrel
      by_cases hc : q ≤ j
      · have hcz : (q : Int) ≤ (j : Int) := by omega
        cases hlv : ltInt dk[q]! dk[a]! with
        | true =>
          obtain ⟨iN, hiN⟩ : ∃ zz, zz = q := ⟨_, rfl⟩
          obtain ⟨jN, hjN⟩ : ∃ zz, zz = a := ⟨_, rfl⟩
          have ei : ((q : Int) : Int).toNat = iN := by omega
          have pi : (0 : Int) ≤ ((q : Int) : Int) := by omega
          have bi : ((q : Int) : Int) < (n : Int) := by omega
          have ri : IntKind.i64.wrap ((q : Int) : Int) = ((q : Int) : Int) := by rw [IntKind.wrap_i64]; omega
          have ej : ((a : Int) : Int).toNat = jN := by omega
          have pj : (0 : Int) ≤ ((a : Int) : Int) := by omega
          have bj : ((a : Int) : Int) < (n : Int) := by omega
          have rj : IntKind.i64.wrap ((a : Int) : Int) = ((a : Int) : Int) := by rw [IntKind.wrap_i64]; omega
          obtain ⟨x, hx⟩ : ∃ zz, zz = dk[q]! := ⟨_, rfl⟩
          obtain ⟨y, hy⟩ : ∃ zz, zz = dk[a]! := ⟨_, rfl⟩
          have la := swc SA.out R (by omega) (q) (by omega)
          have lb := swc SA.out R (by omega) (a) (by omega)
          rw [← hx, ← hiN] at la
          rw [← hy, ← hjN] at lb
          have hd : decide (x < y) = true := by rw [hx, hy]; exact hlv
          have hd2 : x < y := of_decide_eq_true hd
          clear hx hy hiN hjN
          go_wp2_with fail
          go_quiet (first | (go_at_call 130; refine Calls.quiet_of_same (less64 _ _ _)))
          have SB : Hid (SW encU w0 blk off dk (wr.drewN nq)) := Lib.hid (SA.out.drewN nq)
          clear la lb SA hd hd2
          generalize wr.drewN nq = wb at SB ⊢
          clear nq
          clear ei pi bi ri ej pj bj rj
          go_wp2_with fail
          go_roundw
          case rel => exact ⟨q + 1, by go_num, by omega, by omega, SB, Lib.hid (by rw [← HQ.out, scanUp_go _ _ _ _ hc (by simp only [hlv, Bool.not_false, Bool.not_true])])⟩
          case measure => first | (simp [intOf]; done) | (simp [intOf]; omega)
        | false =>
          obtain ⟨iN, hiN⟩ : ∃ zz, zz = q := ⟨_, rfl⟩
          obtain ⟨jN, hjN⟩ : ∃ zz, zz = a := ⟨_, rfl⟩
          have ei : ((q : Int) : Int).toNat = iN := by omega
          have pi : (0 : Int) ≤ ((q : Int) : Int) := by omega
          have bi : ((q : Int) : Int) < (n : Int) := by omega
          have ri : IntKind.i64.wrap ((q : Int) : Int) = ((q : Int) : Int) := by rw [IntKind.wrap_i64]; omega
          have ej : ((a : Int) : Int).toNat = jN := by omega
          have pj : (0 : Int) ≤ ((a : Int) : Int) := by omega
          have bj : ((a : Int) : Int) < (n : Int) := by omega
          have rj : IntKind.i64.wrap ((a : Int) : Int) = ((a : Int) : Int) := by rw [IntKind.wrap_i64]; omega
          obtain ⟨x, hx⟩ : ∃ zz, zz = dk[q]! := ⟨_, rfl⟩
          obtain ⟨y, hy⟩ : ∃ zz, zz = dk[a]! := ⟨_, rfl⟩
          have la := swc SA.out R (by omega) (q) (by omega)
          have lb := swc SA.out R (by omega) (a) (by omega)
          rw [← hx, ← hiN] at la
          rw [← hy, ← hjN] at lb
          have hd : decide (x < y) = false := by rw [hx, hy]; exact hlv
          have hd2 : ¬ x < y := of_decide_eq_false hd
          clear hx hy hiN hjN
          go_wp2_with fail
          go_quiet (first | (go_at_call 130; refine Calls.quiet_of_same (less64 _ _ _)))
          have SB : Hid (SW encU w0 blk off dk (wr.drewN nq)) := Lib.hid (SA.out.drewN nq)
          clear la lb SA hd hd2
          generalize wr.drewN nq = wb at SB ⊢
          clear nq
          clear ei pi bi ri ej pj bj rj
          have HE : Hid (i2 = q) := Lib.hid (HQ.out.symm.trans (scanUp_end _ _ _ _ (.inr (by simp only [hlv, Bool.not_false, Bool.not_true]))))
          go_wp2_with fail
          go_meet
          case rel => exact ⟨by rw [HE.out], SB⟩
      · have hcz : ¬ (q : Int) ≤ (j : Int) := by omega
        have hcd : decide ((q : Int) ≤ (j : Int)) = false := decide_eq_false hcz
        have HE : Hid (i2 = q) := Lib.hid (HQ.out.symm.trans (scanUp_end _ _ _ _ (.inl hc)))
        go_wp2_with fail
        go_quiet (fail)
        have SB : Hid (SW encU w0 blk off dk (wr.drewN nq)) := Lib.hid (SA.out.drewN nq)
        clear SA
        generalize wr.drewN nq = wb at SB ⊢
        go_wp2_with fail
        go_meet
        case rel => exact ⟨by rw [HE.out], SB⟩
  case rest =>
    clear S1
    obtain ⟨rfl, S3⟩ := hcut
    have hm1 : i2 ≤ j + 1 := scanUp_max _ _ _ _ hij Hi2.out
    obtain ⟨j2, hj2⟩ : ∃ q, q = scanDown (fun x => !ltInt x dk[a]!) dk i2 j := ⟨_, rfl⟩
    have Hj2 := Lib.hid hj2
    have mj2 := scanDown_le (fun x => !ltInt x dk[a]!) dk i2 j
    rw [← hj2] at mj2
    clear hj2
    go_upto_block 2 with fail
    go_cut [11] from 12 (fun sq wc => sq = .int .i64 j2 ∧ Hid (SW encU w0 blk off dk wc))
    case first =>
      go_wp2_with fail
      go_loopw [11] (fun vq wy => ∃ q : Nat, vq = .int .i64 q ∧ i2 ≤ q + 1 ∧ q ≤ j ∧ Hid (SW encU w0 blk off dk wy) ∧ Hid (scanDown (fun x => !ltInt x dk[a]!) dk i2 q = j2)) (fun vq _ => (intOf vq).toNat)
      case atStart => exact ⟨j, rfl, by omega, by omega, S3, Lib.hid Hj2.out.symm⟩
      case round =>
        clear S3
        obtain ⟨q, rfl, hq1, hq2, SA, HQ⟩ := hrel
        by_cases hc : i2 ≤ q
        · have hcz : (i2 : Int) ≤ (q : Int) := by omega
          cases hlv : ltInt dk[q]! dk[a]! with
          | true =>
            obtain ⟨iN, hiN⟩ : ∃ zz, zz = q := ⟨_, rfl⟩
            obtain ⟨jN, hjN⟩ : ∃ zz, zz = a := ⟨_, rfl⟩
            have ei : ((q : Int) : Int).toNat = iN := by omega
            have pi : (0 : Int) ≤ ((q : Int) : Int) := by omega
            have bi : ((q : Int) : Int) < (n : Int) := by omega
            have ri : IntKind.i64.wrap ((q : Int) : Int) = ((q : Int) : Int) := by rw [IntKind.wrap_i64]; omega
            have ej : ((a : Int) : Int).toNat = jN := by omega
            have pj : (0 : Int) ≤ ((a : Int) : Int) := by omega
            have bj : ((a : Int) : Int) < (n : Int) := by omega
            have rj : IntKind.i64.wrap ((a : Int) : Int) = ((a : Int) : Int) := by rw [IntKind.wrap_i64]; omega
            obtain ⟨x, hx⟩ : ∃ zz, zz = dk[q]! := ⟨_, rfl⟩
            obtain ⟨y, hy⟩ : ∃ zz, zz = dk[a]! := ⟨_, rfl⟩
            have la := swc SA.out R (by omega) (q) (by omega)
            have lb := swc SA.out R (by omega) (a) (by omega)
            rw [← hx, ← hiN] at la
            rw [← hy, ← hjN] at lb
            have hd : decide (x < y) = true := by rw [hx, hy]; exact hlv
            have hd2 : x < y := of_decide_eq_true hd
            clear hx hy hiN hjN
            go_wp2_with fail
            go_quiet (first | (go_at_call 130; refine Calls.quiet_of_same (less64 _ _ _)))
            have SB : Hid (SW encU w0 blk off dk (wr.drewN nq)) := Lib.hid (SA.out.drewN nq)
            clear la lb SA hd hd2
            generalize wr.drewN nq = wb at SB ⊢
            clear nq
            clear ei pi bi ri ej pj bj rj
            have HE : Hid (j2 = q) := Lib.hid (HQ.out.symm.trans (scanDown_end _ _ _ _ (.inr (by simp only [hlv, Bool.not_false, Bool.not_true]))))
            go_wp2_with fail
            go_meet
            case rel => exact ⟨by rw [HE.out], SB⟩
          | false =>
            obtain ⟨iN, hiN⟩ : ∃ zz, zz = q := ⟨_, rfl⟩
            obtain ⟨jN, hjN⟩ : ∃ zz, zz = a := ⟨_, rfl⟩
            have ei : ((q : Int) : Int).toNat = iN := by omega
            have pi : (0 : Int) ≤ ((q : Int) : Int) := by omega
            have bi : ((q : Int) : Int) < (n : Int) := by omega
            have ri : IntKind.i64.wrap ((q : Int) : Int) = ((q : Int) : Int) := by rw [IntKind.wrap_i64]; omega
            have ej : ((a : Int) : Int).toNat = jN := by omega
            have pj : (0 : Int) ≤ ((a : Int) : Int) := by omega
            have bj : ((a : Int) : Int) < (n : Int) := by omega
            have rj : IntKind.i64.wrap ((a : Int) : Int) = ((a : Int) : Int) := by rw [IntKind.wrap_i64]; omega
            obtain ⟨x, hx⟩ : ∃ zz, zz = dk[q]! := ⟨_, rfl⟩
            obtain ⟨y, hy⟩ : ∃ zz, zz = dk[a]! := ⟨_, rfl⟩
            have la := swc SA.out R (by omega) (q) (by omega)
            have lb := swc SA.out R (by omega) (a) (by omega)
            rw [← hx, ← hiN] at la
            rw [← hy, ← hjN] at lb
            have hd : decide (x < y) = false := by rw [hx, hy]; exact hlv
            have hd2 : ¬ x < y := of_decide_eq_false hd
            clear hx hy hiN hjN
            go_wp2_with fail
            go_quiet (first | (go_at_call 130; refine Calls.quiet_of_same (less64 _ _ _)))
            have SB : Hid (SW encU w0 blk off dk (wr.drewN nq)) := Lib.hid (SA.out.drewN nq)
            clear la lb SA hd hd2
            generalize wr.drewN nq = wb at SB ⊢
            clear nq
            clear ei pi bi ri ej pj bj rj
            go_wp2_with fail
            go_roundw
            case rel => exact ⟨q - 1, by first | go_num | (congr 1; omega), by omega, by omega, SB, Lib.hid (by rw [← HQ.out, scanDown_go _ _ _ _ hc (by omega) (by simp only [hlv, Bool.not_false, Bool.not_true])])⟩
            case measure => first | (simp [intOf]; done) | (simp [intOf]; omega)
        · have hcz : ¬ (i2 : Int) ≤ (q : Int) := by omega
          have hcd : decide ((i2 : Int) ≤ (q : Int)) = false := decide_eq_false hcz
          have HE : Hid (j2 = q) := Lib.hid (HQ.out.symm.trans (scanDown_end _ _ _ _ (.inl hc)))
          go_wp2_with fail
          go_quiet (fail)
          have SB : Hid (SW encU w0 blk off dk (wr.drewN nq)) := Lib.hid (SA.out.drewN nq)
          clear SA
          generalize wr.drewN nq = wb at SB ⊢
          go_wp2_with fail
          go_meet
          case rel => exact ⟨by rw [HE.out], SB⟩
    case rest =>
      clear S3
      obtain ⟨rfl, S4⟩ := hcut
      have hm2 : i2 ≤ j2 + 1 := scanDown_min _ _ _ _ hm1 Hj2.out
      by_cases hgt : j2 < i2
      · have hgz : (j2 : Int) < (i2 : Int) := by omega
        have HB := Lib.hid (part_first_break ltInt d a b pv HI0.out HJ0.out HDK.out Hi2.out Hj2.out hgt)
        go_wp2_with fail
        obtain ⟨iN, hiN⟩ : ∃ zz, zz = j2 := ⟨_, rfl⟩
        obtain ⟨jN, hjN⟩ : ∃ zz, zz = a := ⟨_, rfl⟩
        have ei : ((j2 : Int) : Int).toNat = iN := by omega
        have pi : (0 : Int) ≤ ((j2 : Int) : Int) := by omega
        have bi : ((j2 : Int) : Int) < (n : Int) := by omega
        have ri : IntKind.i64.wrap ((j2 : Int) : Int) = ((j2 : Int) : Int) := by rw [IntKind.wrap_i64]; omega
        have ej : ((a : Int) : Int).toNat = jN := by omega
        have pj : (0 : Int) ≤ ((a : Int) : Int) := by omega
        have bj : ((a : Int) : Int) < (n : Int) := by omega
        have rj : IntKind.i64.wrap ((a : Int) : Int) = ((a : Int) : Int) := by rw [IntKind.wrap_i64]; omega
        obtain ⟨x, hx⟩ : ∃ zz, zz = dk[j2]! := ⟨_, rfl⟩
        obtain ⟨y, hy⟩ : ∃ zz, zz = dk[a]! := ⟨_, rfl⟩
        have S5 : Hid (SW encU w0 blk off (swp dk (j2) (a)) ((wc.setCell ⟨blk, off + iN, none⟩ (.int .u64 y)).setCell ⟨blk, off + jN, none⟩ (.int .u64 x)).drew) := Lib.hid (by rw [hiN, hjN, hx, hy]; exact swsw S4.out R (j2) (a) (by omega) (by omega))
        have ca := swc S4.out R (by omega) (j2) (by omega)
        have cb := swc S4.out R (by omega) (a) (by omega)
        have fa := swf S4.out R (by omega) (j2) (by omega)
        have fb := swf S4.out R (by omega) (a) (by omega)
        obtain ⟨u, cc⟩ := swc2 S4.out R (by omega) (j2) (a) (by omega) (by omega) (.int .u64 y)
        rw [← hjN, ← hiN] at cc
        rw [← hx, ← hiN] at ca
        rw [← hy, ← hjN] at cb
        rw [← hiN] at fa
        rw [← hjN] at fb
        clear S4 hx hy hiN hjN
        go_wp2_with fail
        go_big_region_o
        clear ca cb cc fa fb
        generalize ((wc.setCell ⟨blk, off + iN, none⟩ (.int .u64 y)).setCell ⟨blk, off + jN, none⟩ (.int .u64 x)).drew = w5 at S5 ⊢
        clear ei pi bi ri ej pj bj rj
        go_wp2_with fail
        go_ret2
        exact ⟨by rw [HB.out]; rfl, by rw [HB.out]; exact S5.out⟩
      · have hgz : ¬ (j2 : Int) < (i2 : Int) := by omega
        have hij2 := part_scans_lt ltInt a i j dk (by omega) Hi2.out Hj2.out (by omega)
        have HG := Lib.hid (part_first_go ltInt d a b pv HI0.out HJ0.out HDK.out Hi2.out Hj2.out (by omega))
        go_wp2_with fail
        obtain ⟨iN, hiN⟩ : ∃ zz, zz = i2 := ⟨_, rfl⟩
        obtain ⟨jN, hjN⟩ : ∃ zz, zz = j2 := ⟨_, rfl⟩
        have ei : ((i2 : Int) : Int).toNat = iN := by omega
        have pi : (0 : Int) ≤ ((i2 : Int) : Int) := by omega
        have bi : ((i2 : Int) : Int) < (n : Int) := by omega
        have ri : IntKind.i64.wrap ((i2 : Int) : Int) = ((i2 : Int) : Int) := by rw [IntKind.wrap_i64]; omega
        have ej : ((j2 : Int) : Int).toNat = jN := by omega
        have pj : (0 : Int) ≤ ((j2 : Int) : Int) := by omega
        have bj : ((j2 : Int) : Int) < (n : Int) := by omega
        have rj : IntKind.i64.wrap ((j2 : Int) : Int) = ((j2 : Int) : Int) := by rw [IntKind.wrap_i64]; omega
        obtain ⟨x, hx⟩ : ∃ zz, zz = dk[i2]! := ⟨_, rfl⟩
        obtain ⟨y, hy⟩ : ∃ zz, zz = dk[j2]! := ⟨_, rfl⟩
        have S5 : Hid (SW encU w0 blk off (swp dk (i2) (j2)) ((wc.setCell ⟨blk, off + iN, none⟩ (.int .u64 y)).setCell ⟨blk, off + jN, none⟩ (.int .u64 x)).drew) := Lib.hid (by rw [hiN, hjN, hx, hy]; exact swsw S4.out R (i2) (j2) (by omega) (by omega))
        have ca := swc S4.out R (by omega) (i2) (by omega)
        have cb := swc S4.out R (by omega) (j2) (by omega)
        have fa := swf S4.out R (by omega) (i2) (by omega)
        have fb := swf S4.out R (by omega) (j2) (by omega)
        obtain ⟨u, cc⟩ := swc2 S4.out R (by omega) (i2) (j2) (by omega) (by omega) (.int .u64 y)
        rw [← hjN, ← hiN] at cc
        rw [← hx, ← hiN] at ca
        rw [← hy, ← hjN] at cb
        rw [← hiN] at fa
        rw [← hjN] at fb
        clear S4 hx hy hiN hjN
        go_wp2_with fail
        go_big_region_o
        clear ca cb cc fa fb
        generalize ((wc.setCell ⟨blk, off + iN, none⟩ (.int .u64 y)).setCell ⟨blk, off + jN, none⟩ (.int .u64 x)).drew = w5 at S5 ⊢
        clear ei pi bi ri ej pj bj rj
        have ri2 : IntKind.i64.wrap ((i2 : Int) + 1) = (i2 : Int) + 1 := by rw [IntKind.wrap_i64]; omega
        have rj2 : IntKind.i64.wrap ((j2 : Int) - 1) = (j2 : Int) - 1 := by rw [IntKind.wrap_i64]; omega
        go_wp2_with fail
        obtain ⟨d1, hd1⟩ : ∃ d1, d1 = swp dk i2 j2 := ⟨_, rfl⟩
        have hs1 : d1.size = n := by rw [hd1, size_swp]; exact hsk
        rw [← hd1] at S5 HG
        clear hd1
        go_loopw [10, 11] (fun vi vj wr => ∃ (i j : Nat) (dk : Array Int), vi = .int .i64 i ∧ vj = .int .i64 j ∧ a < i ∧ i ≤ j + 1 ∧ j < b ∧ dk.size = n ∧ Hid (SW encU w0 blk off dk wr) ∧ Hid (partLoop ltInt a i j dk = partLoop ltInt a (i2 + 1) (j2 - 1) d1)) (fun vi vj _ => (intOf vj + 1 - intOf vi).toNat)
        case atStart => exact ⟨i2 + 1, j2 - 1, d1, by go_num, by first | rfl | (congr 1; omega), by omega, by omega, by omega, hs1, S5, rfl⟩
        case round =>
          clear S5
          obtain ⟨i', j', dz, rfl, rfl, hai', hij', hjb', hsz', S2, HO⟩ := hrel
          obtain ⟨i3, hi3⟩ : ∃ q, q = scanUp (fun x => ltInt x dz[a]!) dz j' i' := ⟨_, rfl⟩
          have Hi3 := Lib.hid hi3
          have mi3 := scanUp_ge (fun x => ltInt x dz[a]!) dz j' i'
          rw [← hi3] at mi3
          clear hi3
          go_upto_block 6 with fail
          go_cut [10] from 99 to 152 (fun sq wc => sq = .int .i64 i3 ∧ Hid (SW encU w0 blk off dz wc))
          case first =>
            go_wp2_with fail
            go_loopw [10] (fun vq wy => ∃ q : Nat, vq = .int .i64 q ∧ i' ≤ q ∧ q ≤ j' + 1 ∧ Hid (SW encU w0 blk off dz wy) ∧ Hid (scanUp (fun x => ltInt x dz[a]!) dz j' q = i3)) (fun vq _ => j' + 1 - (intOf vq).toNat)
            case atStart => exact ⟨i', rfl, by omega, by omega, S2, Lib.hid Hi3.out.symm⟩
            case round =>
              clear S2
              obtain ⟨q, rfl, hq1, hq2, SA, HQ⟩ := hrel
              by_cases hc : q ≤ j'
              · have hcz : (q : Int) ≤ (j' : Int) := by omega
                cases hlv : ltInt dz[q]! dz[a]! with
                | true =>
                  obtain ⟨iN, hiN⟩ : ∃ zz, zz = q := ⟨_, rfl⟩
                  obtain ⟨jN, hjN⟩ : ∃ zz, zz = a := ⟨_, rfl⟩
                  have ei : ((q : Int) : Int).toNat = iN := by omega
                  have pi : (0 : Int) ≤ ((q : Int) : Int) := by omega
                  have bi : ((q : Int) : Int) < (n : Int) := by omega
                  have ri : IntKind.i64.wrap ((q : Int) : Int) = ((q : Int) : Int) := by rw [IntKind.wrap_i64]; omega
                  have ej : ((a : Int) : Int).toNat = jN := by omega
                  have pj : (0 : Int) ≤ ((a : Int) : Int) := by omega
                  have bj : ((a : Int) : Int) < (n : Int) := by omega
                  have rj : IntKind.i64.wrap ((a : Int) : Int) = ((a : Int) : Int) := by rw [IntKind.wrap_i64]; omega
                  obtain ⟨x, hx⟩ : ∃ zz, zz = dz[q]! := ⟨_, rfl⟩
                  obtain ⟨y, hy⟩ : ∃ zz, zz = dz[a]! := ⟨_, rfl⟩
                  have la := swc SA.out R (by omega) (q) (by omega)
                  have lb := swc SA.out R (by omega) (a) (by omega)
                  rw [← hx, ← hiN] at la
                  rw [← hy, ← hjN] at lb
                  have hd : decide (x < y) = true := by rw [hx, hy]; exact hlv
                  have hd2 : x < y := of_decide_eq_true hd
                  clear hx hy hiN hjN
                  go_wp2_with fail
                  go_quiet (first | (go_at_call 130; refine Calls.quiet_of_same (less64 _ _ _)))
                  have SB : Hid (SW encU w0 blk off dz (wr.drewN nq)) := Lib.hid (SA.out.drewN nq)
                  clear la lb SA hd hd2
                  generalize wr.drewN nq = wb at SB ⊢
                  clear nq
                  clear ei pi bi ri ej pj bj rj
                  go_wp2_with fail
                  go_roundw
                  case rel => exact ⟨q + 1, by go_num, by omega, by omega, SB, Lib.hid (by rw [← HQ.out, scanUp_go _ _ _ _ hc (by simp only [hlv, Bool.not_false, Bool.not_true])])⟩
                  case measure => first | (simp [intOf]; done) | (simp [intOf]; omega)
                | false =>
                  obtain ⟨iN, hiN⟩ : ∃ zz, zz = q := ⟨_, rfl⟩
                  obtain ⟨jN, hjN⟩ : ∃ zz, zz = a := ⟨_, rfl⟩
                  have ei : ((q : Int) : Int).toNat = iN := by omega
                  have pi : (0 : Int) ≤ ((q : Int) : Int) := by omega
                  have bi : ((q : Int) : Int) < (n : Int) := by omega
                  have ri : IntKind.i64.wrap ((q : Int) : Int) = ((q : Int) : Int) := by rw [IntKind.wrap_i64]; omega
                  have ej : ((a : Int) : Int).toNat = jN := by omega
                  have pj : (0 : Int) ≤ ((a : Int) : Int) := by omega
                  have bj : ((a : Int) : Int) < (n : Int) := by omega
                  have rj : IntKind.i64.wrap ((a : Int) : Int) = ((a : Int) : Int) := by rw [IntKind.wrap_i64]; omega
                  obtain ⟨x, hx⟩ : ∃ zz, zz = dz[q]! := ⟨_, rfl⟩
                  obtain ⟨y, hy⟩ : ∃ zz, zz = dz[a]! := ⟨_, rfl⟩
                  have la := swc SA.out R (by omega) (q) (by omega)
                  have lb := swc SA.out R (by omega) (a) (by omega)
                  rw [← hx, ← hiN] at la
                  rw [← hy, ← hjN] at lb
                  have hd : decide (x < y) = false := by rw [hx, hy]; exact hlv
                  have hd2 : ¬ x < y := of_decide_eq_false hd
                  clear hx hy hiN hjN
                  go_wp2_with fail
                  go_quiet (first | (go_at_call 130; refine Calls.quiet_of_same (less64 _ _ _)))
                  have SB : Hid (SW encU w0 blk off dz (wr.drewN nq)) := Lib.hid (SA.out.drewN nq)
                  clear la lb SA hd hd2
                  generalize wr.drewN nq = wb at SB ⊢
                  clear nq
                  clear ei pi bi ri ej pj bj rj
                  have HE : Hid (i3 = q) := Lib.hid (HQ.out.symm.trans (scanUp_end _ _ _ _ (.inr (by simp only [hlv, Bool.not_false, Bool.not_true]))))
                  go_wp2_with fail
                  go_meet
                  case rel => exact ⟨by rw [HE.out], SB⟩
              · have hcz : ¬ (q : Int) ≤ (j' : Int) := by omega
                have hcd : decide ((q : Int) ≤ (j' : Int)) = false := decide_eq_false hcz
                have HE : Hid (i3 = q) := Lib.hid (HQ.out.symm.trans (scanUp_end _ _ _ _ (.inl hc)))
                go_wp2_with fail
                go_quiet (fail)
                have SB : Hid (SW encU w0 blk off dz (wr.drewN nq)) := Lib.hid (SA.out.drewN nq)
                clear SA
                generalize wr.drewN nq = wb at SB ⊢
                go_wp2_with fail
                go_meet
                case rel => exact ⟨by rw [HE.out], SB⟩
          case rest =>
            clear S2
            obtain ⟨rfl, S3⟩ := hcut
            have hm3 : i3 ≤ j' + 1 := scanUp_max _ _ _ _ hij' Hi3.out
            obtain ⟨j3, hj3⟩ : ∃ q, q = scanDown (fun x => !ltInt x dz[a]!) dz i3 j' := ⟨_, rfl⟩
            have Hj3 := Lib.hid hj3
            have mj3 := scanDown_le (fun x => !ltInt x dz[a]!) dz i3 j'
            rw [← hj3] at mj3
            clear hj3
            go_upto_block 8 with fail
            go_cut [11] from 99 to 152 (fun sq wc => sq = .int .i64 j3 ∧ Hid (SW encU w0 blk off dz wc))
            case first =>
              go_wp2_with fail
              go_loopw [11] (fun vq wy => ∃ q : Nat, vq = .int .i64 q ∧ i3 ≤ q + 1 ∧ q ≤ j' ∧ Hid (SW encU w0 blk off dz wy) ∧ Hid (scanDown (fun x => !ltInt x dz[a]!) dz i3 q = j3)) (fun vq _ => (intOf vq).toNat)
              case atStart => exact ⟨j', rfl, by omega, by omega, S3, Lib.hid Hj3.out.symm⟩
              case round =>
                clear S3
                obtain ⟨q, rfl, hq1, hq2, SA, HQ⟩ := hrel
                by_cases hc : i3 ≤ q
                · have hcz : (i3 : Int) ≤ (q : Int) := by omega
                  cases hlv : ltInt dz[q]! dz[a]! with
                  | true =>
                    obtain ⟨iN, hiN⟩ : ∃ zz, zz = q := ⟨_, rfl⟩
                    obtain ⟨jN, hjN⟩ : ∃ zz, zz = a := ⟨_, rfl⟩
                    have ei : ((q : Int) : Int).toNat = iN := by omega
                    have pi : (0 : Int) ≤ ((q : Int) : Int) := by omega
                    have bi : ((q : Int) : Int) < (n : Int) := by omega
                    have ri : IntKind.i64.wrap ((q : Int) : Int) = ((q : Int) : Int) := by rw [IntKind.wrap_i64]; omega
                    have ej : ((a : Int) : Int).toNat = jN := by omega
                    have pj : (0 : Int) ≤ ((a : Int) : Int) := by omega
                    have bj : ((a : Int) : Int) < (n : Int) := by omega
                    have rj : IntKind.i64.wrap ((a : Int) : Int) = ((a : Int) : Int) := by rw [IntKind.wrap_i64]; omega
                    obtain ⟨x, hx⟩ : ∃ zz, zz = dz[q]! := ⟨_, rfl⟩
                    obtain ⟨y, hy⟩ : ∃ zz, zz = dz[a]! := ⟨_, rfl⟩
                    have la := swc SA.out R (by omega) (q) (by omega)
                    have lb := swc SA.out R (by omega) (a) (by omega)
                    rw [← hx, ← hiN] at la
                    rw [← hy, ← hjN] at lb
                    have hd : decide (x < y) = true := by rw [hx, hy]; exact hlv
                    have hd2 : x < y := of_decide_eq_true hd
                    clear hx hy hiN hjN
                    go_wp2_with fail
                    go_quiet (first | (go_at_call 130; refine Calls.quiet_of_same (less64 _ _ _)))
                    have SB : Hid (SW encU w0 blk off dz (wr.drewN nq)) := Lib.hid (SA.out.drewN nq)
                    clear la lb SA hd hd2
                    generalize wr.drewN nq = wb at SB ⊢
                    clear nq
                    clear ei pi bi ri ej pj bj rj
                    have HE : Hid (j3 = q) := Lib.hid (HQ.out.symm.trans (scanDown_end _ _ _ _ (.inr (by simp only [hlv, Bool.not_false, Bool.not_true]))))
                    go_wp2_with fail
                    go_meet
                    case rel => exact ⟨by rw [HE.out], SB⟩
                  | false =>
                    obtain ⟨iN, hiN⟩ : ∃ zz, zz = q := ⟨_, rfl⟩
                    obtain ⟨jN, hjN⟩ : ∃ zz, zz = a := ⟨_, rfl⟩
                    have ei : ((q : Int) : Int).toNat = iN := by omega
                    have pi : (0 : Int) ≤ ((q : Int) : Int) := by omega
                    have bi : ((q : Int) : Int) < (n : Int) := by omega
                    have ri : IntKind.i64.wrap ((q : Int) : Int) = ((q : Int) : Int) := by rw [IntKind.wrap_i64]; omega
                    have ej : ((a : Int) : Int).toNat = jN := by omega
                    have pj : (0 : Int) ≤ ((a : Int) : Int) := by omega
                    have bj : ((a : Int) : Int) < (n : Int) := by omega
                    have rj : IntKind.i64.wrap ((a : Int) : Int) = ((a : Int) : Int) := by rw [IntKind.wrap_i64]; omega
                    obtain ⟨x, hx⟩ : ∃ zz, zz = dz[q]! := ⟨_, rfl⟩
                    obtain ⟨y, hy⟩ : ∃ zz, zz = dz[a]! := ⟨_, rfl⟩
                    have la := swc SA.out R (by omega) (q) (by omega)
                    have lb := swc SA.out R (by omega) (a) (by omega)
                    rw [← hx, ← hiN] at la
                    rw [← hy, ← hjN] at lb
                    have hd : decide (x < y) = false := by rw [hx, hy]; exact hlv
                    have hd2 : ¬ x < y := of_decide_eq_false hd
                    clear hx hy hiN hjN
                    go_wp2_with fail
                    go_quiet (first | (go_at_call 130; refine Calls.quiet_of_same (less64 _ _ _)))
                    have SB : Hid (SW encU w0 blk off dz (wr.drewN nq)) := Lib.hid (SA.out.drewN nq)
                    clear la lb SA hd hd2
                    generalize wr.drewN nq = wb at SB ⊢
                    clear nq
                    clear ei pi bi ri ej pj bj rj
                    go_wp2_with fail
                    go_roundw
                    case rel => exact ⟨q - 1, by first | go_num | (congr 1; omega), by omega, by omega, SB, Lib.hid (by rw [← HQ.out, scanDown_go _ _ _ _ hc (by omega) (by simp only [hlv, Bool.not_false, Bool.not_true])])⟩
                    case measure => first | (simp [intOf]; done) | (simp [intOf]; omega)
                · have hcz : ¬ (i3 : Int) ≤ (q : Int) := by omega
                  have hcd : decide ((i3 : Int) ≤ (q : Int)) = false := decide_eq_false hcz
                  have HE : Hid (j3 = q) := Lib.hid (HQ.out.symm.trans (scanDown_end _ _ _ _ (.inl hc)))
                  go_wp2_with fail
                  go_quiet (fail)
                  have SB : Hid (SW encU w0 blk off dz (wr.drewN nq)) := Lib.hid (SA.out.drewN nq)
                  clear SA
                  generalize wr.drewN nq = wb at SB ⊢
                  go_wp2_with fail
                  go_meet
                  case rel => exact ⟨by rw [HE.out], SB⟩
            case rest =>
              clear S3
              obtain ⟨rfl, S4⟩ := hcut
              have hm4 : i3 ≤ j3 + 1 := scanDown_min _ _ _ _ hm3 Hj3.out
              by_cases hgt : j3 < i3
              · have hgz : (j3 : Int) < (i3 : Int) := by omega
                have HB := Lib.hid (part_break ltInt a i' j' dz Hi3.out Hj3.out hgt)
                go_wp2_with fail
                obtain ⟨iN, hiN⟩ : ∃ zz, zz = j3 := ⟨_, rfl⟩
                obtain ⟨jN, hjN⟩ : ∃ zz, zz = a := ⟨_, rfl⟩
                have ei : ((j3 : Int) : Int).toNat = iN := by omega
                have pi : (0 : Int) ≤ ((j3 : Int) : Int) := by omega
                have bi : ((j3 : Int) : Int) < (n : Int) := by omega
                have ri : IntKind.i64.wrap ((j3 : Int) : Int) = ((j3 : Int) : Int) := by rw [IntKind.wrap_i64]; omega
                have ej : ((a : Int) : Int).toNat = jN := by omega
                have pj : (0 : Int) ≤ ((a : Int) : Int) := by omega
                have bj : ((a : Int) : Int) < (n : Int) := by omega
                have rj : IntKind.i64.wrap ((a : Int) : Int) = ((a : Int) : Int) := by rw [IntKind.wrap_i64]; omega
                obtain ⟨x, hx⟩ : ∃ zz, zz = dz[j3]! := ⟨_, rfl⟩
                obtain ⟨y, hy⟩ : ∃ zz, zz = dz[a]! := ⟨_, rfl⟩
                have S5 : Hid (SW encU w0 blk off (swp dz (j3) (a)) ((wc.setCell ⟨blk, off + iN, none⟩ (.int .u64 y)).setCell ⟨blk, off + jN, none⟩ (.int .u64 x)).drew) := Lib.hid (by rw [hiN, hjN, hx, hy]; exact swsw S4.out R (j3) (a) (by omega) (by omega))
                have ca := swc S4.out R (by omega) (j3) (by omega)
                have cb := swc S4.out R (by omega) (a) (by omega)
                have fa := swf S4.out R (by omega) (j3) (by omega)
                have fb := swf S4.out R (by omega) (a) (by omega)
                obtain ⟨u, cc⟩ := swc2 S4.out R (by omega) (j3) (a) (by omega) (by omega) (.int .u64 y)
                rw [← hjN, ← hiN] at cc
                rw [← hx, ← hiN] at ca
                rw [← hy, ← hjN] at cb
                rw [← hiN] at fa
                rw [← hjN] at fb
                clear S4 hx hy hiN hjN
                go_wp2_with fail
                go_big_region_o
                clear ca cb cc fa fb
                generalize ((wc.setCell ⟨blk, off + iN, none⟩ (.int .u64 y)).setCell ⟨blk, off + jN, none⟩ (.int .u64 x)).drew = w5 at S5 ⊢
                clear ei pi bi ri ej pj bj rj
                go_wp2_with fail
                go_ret2
                exact ⟨by rw [HG.out, ← HO.out, HB.out]; rfl, by rw [HG.out, ← HO.out, HB.out]; exact S5.out⟩
              · have hgz : ¬ (j3 : Int) < (i3 : Int) := by omega
                have hij3 := part_scans_lt ltInt a i' j' dz (by omega) Hi3.out Hj3.out (by omega)
                have HG2 := Lib.hid (part_go ltInt a i' j' dz Hi3.out Hj3.out (by omega))
                go_wp2_with fail
                obtain ⟨iN, hiN⟩ : ∃ zz, zz = i3 := ⟨_, rfl⟩
                obtain ⟨jN, hjN⟩ : ∃ zz, zz = j3 := ⟨_, rfl⟩
                have ei : ((i3 : Int) : Int).toNat = iN := by omega
                have pi : (0 : Int) ≤ ((i3 : Int) : Int) := by omega
                have bi : ((i3 : Int) : Int) < (n : Int) := by omega
                have ri : IntKind.i64.wrap ((i3 : Int) : Int) = ((i3 : Int) : Int) := by rw [IntKind.wrap_i64]; omega
                have ej : ((j3 : Int) : Int).toNat = jN := by omega
                have pj : (0 : Int) ≤ ((j3 : Int) : Int) := by omega
                have bj : ((j3 : Int) : Int) < (n : Int) := by omega
                have rj : IntKind.i64.wrap ((j3 : Int) : Int) = ((j3 : Int) : Int) := by rw [IntKind.wrap_i64]; omega
                obtain ⟨x, hx⟩ : ∃ zz, zz = dz[i3]! := ⟨_, rfl⟩
                obtain ⟨y, hy⟩ : ∃ zz, zz = dz[j3]! := ⟨_, rfl⟩
                have S5 : Hid (SW encU w0 blk off (swp dz (i3) (j3)) ((wc.setCell ⟨blk, off + iN, none⟩ (.int .u64 y)).setCell ⟨blk, off + jN, none⟩ (.int .u64 x)).drew) := Lib.hid (by rw [hiN, hjN, hx, hy]; exact swsw S4.out R (i3) (j3) (by omega) (by omega))
                have ca := swc S4.out R (by omega) (i3) (by omega)
                have cb := swc S4.out R (by omega) (j3) (by omega)
                have fa := swf S4.out R (by omega) (i3) (by omega)
                have fb := swf S4.out R (by omega) (j3) (by omega)
                obtain ⟨u, cc⟩ := swc2 S4.out R (by omega) (i3) (j3) (by omega) (by omega) (.int .u64 y)
                rw [← hjN, ← hiN] at cc
                rw [← hx, ← hiN] at ca
                rw [← hy, ← hjN] at cb
                rw [← hiN] at fa
                rw [← hjN] at fb
                clear S4 hx hy hiN hjN
                go_wp2_with fail
                go_big_region_o
                clear ca cb cc fa fb
                generalize ((wc.setCell ⟨blk, off + iN, none⟩ (.int .u64 y)).setCell ⟨blk, off + jN, none⟩ (.int .u64 x)).drew = w5 at S5 ⊢
                clear ei pi bi ri ej pj bj rj
                have ri3 : IntKind.i64.wrap ((i3 : Int) + 1) = (i3 : Int) + 1 := by rw [IntKind.wrap_i64]; omega
                have rj3 : IntKind.i64.wrap ((j3 : Int) - 1) = (j3 : Int) - 1 := by rw [IntKind.wrap_i64]; omega
                go_wp2_with fail
                go_roundw
                case rel => exact ⟨i3 + 1, j3 - 1, swp dz i3 j3, by go_num, by first | go_num | (congr 1; omega), by omega, by omega, by omega, by rw [size_swp]; exact hsz', S5, Lib.hid (by rw [← HO.out, HG2.out])⟩
                case measure => first | (simp [intOf]; done) | (simp [intOf]; omega)
end Go.Proofs.YtnkdcmibafjplaaGreatDoor
