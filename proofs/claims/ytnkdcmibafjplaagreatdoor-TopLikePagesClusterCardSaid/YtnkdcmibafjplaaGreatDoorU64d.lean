/-
  slices.Sort's family at uint64, part 4: the partial insertion sort and the patterns.
-/
import Derived.Test.YtnkdcmibafjplaaGreatDoorU64
import Derived.Sort.WalkA6
import Derived.Sort.Walk7
import Derived.Sort.LotA
import Derived.Deep.Cut
import Derived.Deep.CutRange
import Derived.Deep.CutBlock
import Derived.Shelf.SlSortCmp.Xorshift
namespace Go.Proofs.YtnkdcmibafjplaaGreatDoor
open Go.Shelf Go.RowKit Go.Lib Go.Sort
set_option linter.unusedVariables false
set_option linter.unusedSimpArgs false

def xsNext_ren : Go.Shelf.Ren := ⟨fun | 48 => 162 | n => n, fun | 0 => 0 | 39 => 154 | 55 => 95 | 66 => 226 | 76 => 246 | n => n, fun | n => n⟩
theorem xsNext : SlLaysF0.n48 Tryz.prog xsNext_ren := {
  mixed := by kernel_rfl,
  f48 := Tryz.func162.trans (congrArg some (by kernel_rfl)),
  t0 := Tryz.underlying0,
  a0 := Tryz.isAgg0,
  z0 := Tryz.sizeOf0,
  v0 := Tryz.zeroValue0,
  t39 := Tryz.underlying154,
  a39 := Tryz.isAgg154,
  z39 := Tryz.sizeOf154,
  v39 := Tryz.zeroValue154,
  t55 := Tryz.underlying95,
  a55 := Tryz.isAgg95,
  z55 := Tryz.sizeOf95,
  v55 := Tryz.zeroValue95,
  t66 := Tryz.underlying226,
  a66 := Tryz.isAgg226,
  z66 := Tryz.sizeOf226,
  v66 := Tryz.zeroValue226,
  t76 := Tryz.underlying246,
  a76 := Tryz.isAgg246,
  z76 := Tryz.sizeOf246,
  v76 := Tryz.zeroValue246 }

def npTwo_ren : Go.Shelf.Ren := ⟨fun | 15 => 78 | 28 => 121 | 29 => 122 | 47 => 161 | n => n, fun | 3 => 3 | 4 => 4 | 5 => 5 | 9 => 9 | 39 => 154 | 53 => 201 | 55 => 95 | n => n, fun | n => n⟩
theorem npTwo : SlLaysF0.n47 Tryz.prog npTwo_ren := {
  mixed := by kernel_rfl,
  f15 := Tryz.func78.trans (congrArg some (by kernel_rfl)),
  f28 := Tryz.func121.trans (congrArg some (by kernel_rfl)),
  f29 := Tryz.func122.trans (congrArg some (by kernel_rfl)),
  f47 := Tryz.func161.trans (congrArg some (by kernel_rfl)),
  t3 := Tryz.underlying3,
  a3 := Tryz.isAgg3,
  z3 := Tryz.sizeOf3,
  v3 := Tryz.zeroValue3,
  t4 := Tryz.underlying4,
  a4 := Tryz.isAgg4,
  z4 := Tryz.sizeOf4,
  v4 := Tryz.zeroValue4,
  t5 := Tryz.underlying5,
  a5 := Tryz.isAgg5,
  z5 := Tryz.sizeOf5,
  v5 := Tryz.zeroValue5,
  t9 := Tryz.underlying9,
  a9 := Tryz.isAgg9,
  z9 := Tryz.sizeOf9,
  v9 := Tryz.zeroValue9,
  t39 := Tryz.underlying154,
  a39 := Tryz.isAgg154,
  z39 := Tryz.sizeOf154,
  v39 := Tryz.zeroValue154,
  t53 := Tryz.underlying201,
  a53 := Tryz.isAgg201,
  z53 := Tryz.sizeOf201,
  v53 := Tryz.zeroValue201,
  t55 := Tryz.underlying95,
  a55 := Tryz.isAgg95,
  z55 := Tryz.sizeOf95,
  v55 := Tryz.zeroValue95 }

theorem size_sd64 : ∀ (j : Nat) (d : Array Int), (shiftDown ltInt j d).size = d.size
  | 0, d => rfl
  | j + 1, d => by
    rw [shiftDown]
    split
    · rfl
    · rw [size_sd64 j, size_swp]
theorem size_su64 (b : Nat) : ∀ (m j : Nat) (d : Array Int), b - j ≤ m → (shiftUp ltInt b j d).size = d.size
  | 0, j, d, h => by rw [shiftUp, if_neg (by omega)]
  | m + 1, j, d, h => by
    rw [shiftUp]
    split
    · split
      · rfl
      · rw [size_su64 b m (j + 1) _ (by omega), size_swp]
    · rfl
theorem size_fd64 (a i : Nat) (d : Array Int) : (fixDown ltInt a i d).size = d.size := by
  unfold fixDown
  split
  · exact size_sd64 _ _
  · rfl
theorem size_fu64 (b i : Nat) (d : Array Int) : (fixUp ltInt b i d).size = d.size := by
  unfold fixUp
  split
  · exact size_su64 b _ _ _ (Nat.le_refl _)
  · rfl
theorem scanSorted_in (d : Array Int) (b : Nat) : ∀ (m i : Nat), b - i ≤ m → i ≤ b → i ≤ scanSorted ltInt d b i ∧ scanSorted ltInt d b i ≤ b
  | 0, i, h, hi => by rw [scanSorted_stop ltInt d b i (.inl (by omega))]; exact ⟨Nat.le_refl _, hi⟩
  | m + 1, i, h, hi => by
    by_cases h1 : i < b ∧ ltInt d[i]! d[i - 1]! = false
    · rw [scanSorted_go ltInt d b i h1.1 h1.2]
      have := scanSorted_in d b m (i + 1) (by omega) (by omega)
      omega
    · rw [scanSorted_stop ltInt d b i (by
        by_cases h2 : i < b
        · right
          cases q : ltInt d[i]! d[i - 1]! with
          | true => rfl
          | false => exact absurd ⟨h2, q⟩ h1
        · exact .inl h2)]
      exact ⟨Nat.le_refl _, hi⟩
set_option maxHeartbeats 8000000 in
set_option maxRecDepth 1000000 in
theorem partial64 (n blk off cap a b : Nat) (d0 d : Array Int) (w0 w : World) (R : RowU w0 blk off d0) (hs0 : d0.size = n) (hs : d.size = n) (S : SW encU w0 blk off d w) (hsz : n < 4611686018427387904) (hab : a < b) (hb : b ≤ n) :
    Calls Tryz.prog 129 #[.slice (some ⟨blk, off, none⟩) n cap, .int .i64 a, .int .i64 b] w fun e w' => e = .returned (.bool (Sort.partialInsertionSort ltInt d a b).2) ∧ SW encU w0 blk off (Sort.partialInsertionSort ltInt d a b).1 w' := by
  have mixed : Tryz.prog.follows .mixedOrders = true := by kernel_rfl
  have S0 := Lib.hid S
  clear S
  have ra1 : IntKind.i64.wrap ((a : Int) + 1) = (a : Int) + 1 := by rw [IntKind.wrap_i64]; omega
  have rba : IntKind.i64.wrap ((b : Int) - (a : Int)) = (b : Int) - (a : Int) := by rw [IntKind.wrap_i64]; omega
  have HD : Hid (Sort.partialInsertionSort ltInt d a b = partialIns ltInt a b (5 - 0) (a + 1) d) := Lib.hid rfl
  go_enter Tryz.func129, Tryz.ntmps129
  go_wp2_with fail
  go_loopw [7, 8] (fun vi vs wr => ∃ (i st : Nat) (dk : Array Int), vi = .int .i64 i ∧ vs = .int .i64 st ∧ st ≤ 5 ∧ a < i ∧ i ≤ b ∧ dk.size = n ∧ Hid (SW encU w0 blk off dk wr) ∧ Hid (partialIns ltInt a b (5 - st) i dk = partialIns ltInt a b (5 - 0) (a + 1) d)) (fun _ vs _ => 5 - (intOf vs).toNat)
  case atStart => exact ⟨a + 1, 0, d, by go_num, rfl, by omega, by omega, by omega, hs, S0, rfl⟩
  case round =>
    clear S0
    obtain ⟨i, st, dk, rfl, rfl, hst, hai, hib, hsk, S1, HO⟩ := hrel
    by_cases hs5 : st < 5
    case neg =>
      obtain rfl : st = 5 := by omega
      go_wp2_with fail
      go_ret
      exact ⟨by rw [HD.out, ← HO.out]; rfl, by rw [HD.out, ← HO.out]; exact S1.out⟩
    have hs5z : (st : Int) < 5 := by omega
    obtain ⟨K, hK⟩ : ∃ K, K = scanSorted ltInt dk b i := ⟨_, rfl⟩
    have hKin := scanSorted_in dk b _ i (Nat.le_refl _) hib
    rw [← hK] at hKin
    have HK := Lib.hid hK
    clear hK
    go_upto_block 2 with fail
    go_cut [7] from 13 to 132 (fun sq wc => sq = .int .i64 K ∧ Hid (SW encU w0 blk off dk wc))
    case first =>
      go_wp2_with fail
      go_loopw [7] (fun vq wy => ∃ q : Nat, vq = .int .i64 q ∧ i ≤ q ∧ q ≤ b ∧ Hid (SW encU w0 blk off dk wy) ∧ Hid (scanSorted ltInt dk b q = K)) (fun vq _ => b - (intOf vq).toNat)
      case atStart => exact ⟨i, rfl, Nat.le_refl _, by omega, S1, Lib.hid HK.out.symm⟩
      case round =>
        clear S1
        obtain ⟨q, rfl, hq1, hq2, SA, HQ⟩ := hrel
        by_cases hc : q < b
        · have hcz : (q : Int) < (b : Int) := by omega
          cases hlv : ltInt dk[q]! dk[q - 1]! with
          | false =>
            obtain ⟨iN, hiN⟩ : ∃ zz, zz = q := ⟨_, rfl⟩
            obtain ⟨jN, hjN⟩ : ∃ zz, zz = q - 1 := ⟨_, rfl⟩
            have ei : ((q : Int) : Int).toNat = iN := by omega
            have pi : (0 : Int) ≤ ((q : Int) : Int) := by omega
            have bi : ((q : Int) : Int) < (n : Int) := by omega
            have ri : IntKind.i64.wrap ((q : Int) : Int) = ((q : Int) : Int) := by rw [IntKind.wrap_i64]; omega
            have ej : ((q : Int) - 1 : Int).toNat = jN := by omega
            have pj : (0 : Int) ≤ ((q : Int) - 1 : Int) := by omega
            have bj : ((q : Int) - 1 : Int) < (n : Int) := by omega
            have rj : IntKind.i64.wrap ((q : Int) - 1 : Int) = ((q : Int) - 1 : Int) := by rw [IntKind.wrap_i64]; omega
            obtain ⟨x, hx⟩ : ∃ zz, zz = dk[q]! := ⟨_, rfl⟩
            obtain ⟨y, hy⟩ : ∃ zz, zz = dk[q - 1]! := ⟨_, rfl⟩
            have la := swc SA.out R (by omega) (q) (by omega)
            have lb := swc SA.out R (by omega) (q - 1) (by omega)
            rw [← hx, ← hiN] at la
            rw [← hy, ← hjN] at lb
            have hd : decide (x < y) = false := by rw [hx, hy]; exact hlv
            have hd2 : ¬ x < y := of_decide_eq_false hd
            clear hx hy hiN hjN
            go_wp2_with fail
            go_quiet (first | (go_at_call 130; refine Calls.quiet_of_same (less64 _ _ _)))
            have SB : Hid (SW encU w0 blk off dk (wr.drewN nq)) := Lib.hid (SA.out.drewN nq)
            clear la lb SA hd hd2
            generalize wr.drewN nq = wb at SB ⊢
            clear nq
            clear ei pi bi ri ej pj bj rj
            go_wp2_with fail
            go_roundw
            case rel => exact ⟨q + 1, by go_num, by omega, by omega, SB, Lib.hid (by rw [← HQ.out, scanSorted_go ltInt dk b q hc hlv])⟩
            case measure => first | (simp [intOf]; done) | (simp [intOf]; omega)
          | true =>
            obtain ⟨iN, hiN⟩ : ∃ zz, zz = q := ⟨_, rfl⟩
            obtain ⟨jN, hjN⟩ : ∃ zz, zz = q - 1 := ⟨_, rfl⟩
            have ei : ((q : Int) : Int).toNat = iN := by omega
            have pi : (0 : Int) ≤ ((q : Int) : Int) := by omega
            have bi : ((q : Int) : Int) < (n : Int) := by omega
            have ri : IntKind.i64.wrap ((q : Int) : Int) = ((q : Int) : Int) := by rw [IntKind.wrap_i64]; omega
            have ej : ((q : Int) - 1 : Int).toNat = jN := by omega
            have pj : (0 : Int) ≤ ((q : Int) - 1 : Int) := by omega
            have bj : ((q : Int) - 1 : Int) < (n : Int) := by omega
            have rj : IntKind.i64.wrap ((q : Int) - 1 : Int) = ((q : Int) - 1 : Int) := by rw [IntKind.wrap_i64]; omega
            obtain ⟨x, hx⟩ : ∃ zz, zz = dk[q]! := ⟨_, rfl⟩
            obtain ⟨y, hy⟩ : ∃ zz, zz = dk[q - 1]! := ⟨_, rfl⟩
            have la := swc SA.out R (by omega) (q) (by omega)
            have lb := swc SA.out R (by omega) (q - 1) (by omega)
            rw [← hx, ← hiN] at la
            rw [← hy, ← hjN] at lb
            have hd : decide (x < y) = true := by rw [hx, hy]; exact hlv
            have hd2 : x < y := of_decide_eq_true hd
            clear hx hy hiN hjN
            go_wp2_with fail
            go_quiet (first | (go_at_call 130; refine Calls.quiet_of_same (less64 _ _ _)))
            have SB : Hid (SW encU w0 blk off dk (wr.drewN nq)) := Lib.hid (SA.out.drewN nq)
            clear la lb SA hd hd2
            generalize wr.drewN nq = wb at SB ⊢
            clear nq
            clear ei pi bi ri ej pj bj rj
            have HE : Hid (K = q) := Lib.hid (HQ.out.symm.trans (scanSorted_stop ltInt dk b q (.inr hlv)))
            go_wp2_with fail
            go_meet
            case rel => exact ⟨by rw [HE.out], SB⟩
        · have hcz : ¬ (q : Int) < (b : Int) := by omega
          have hcd : decide ((q : Int) < (b : Int)) = false := decide_eq_false hcz
          have HE : Hid (K = q) := Lib.hid (HQ.out.symm.trans (scanSorted_stop ltInt dk b q (.inl hc)))
          go_wp2_with fail
          go_quiet (fail)
          have SB : Hid (SW encU w0 blk off dk (wr.drewN nq)) := Lib.hid (SA.out.drewN nq)
          clear SA
          generalize wr.drewN nq = wb at SB ⊢
          go_wp2_with fail
          go_meet
          case rel => exact ⟨by rw [HE.out], SB⟩
    case rest =>
      clear S1
      obtain ⟨rfl, S2⟩ := hcut
      by_cases hKb : K = b
      · have hKz : (K : Int) = (b : Int) := by omega
        have HT := Lib.hid (pi_true ltInt a b st i dk hs5 (HK.out.symm.trans hKb))
        have hKq : ((K : Int) == (b : Int)) = true := by simpa using hKz
        clear hKz hKb
        go_wp2_with fail
        go_ret
        exact ⟨by rw [HD.out, ← HO.out, HT.out]; rfl, by rw [HD.out, ← HO.out, HT.out]; exact S2.out⟩
      · have hKq : ((K : Int) == (b : Int)) = false := by rw [beq_eq_false_iff_ne]; omega
        by_cases h50 : b - a < 50
        · have h50z : (b : Int) - (a : Int) < 50 := by omega
          have HT := Lib.hid (pi_short ltInt a b st i dk hs5 (fun e => hKb (HK.out.trans e)) h50)
          go_wp2_with fail
          go_ret
          exact ⟨by rw [HD.out, ← HO.out, HT.out]; rfl, by rw [HD.out, ← HO.out, HT.out]; exact S2.out⟩
        · have h50z : ¬ (b : Int) - (a : Int) < 50 := by omega
          have HG := Lib.hid (pi_go ltInt a b st i K dk hs5 HK.out.symm hKb h50)
          go_wp2_with fail
          obtain ⟨iN, hiN⟩ : ∃ zz, zz = K := ⟨_, rfl⟩
          obtain ⟨jN, hjN⟩ : ∃ zz, zz = K - 1 := ⟨_, rfl⟩
          have ei : ((K : Int) : Int).toNat = iN := by omega
          have pi : (0 : Int) ≤ ((K : Int) : Int) := by omega
          have bi : ((K : Int) : Int) < (n : Int) := by omega
          have ri : IntKind.i64.wrap ((K : Int) : Int) = ((K : Int) : Int) := by rw [IntKind.wrap_i64]; omega
          have ej : ((K : Int) - 1 : Int).toNat = jN := by omega
          have pj : (0 : Int) ≤ ((K : Int) - 1 : Int) := by omega
          have bj : ((K : Int) - 1 : Int) < (n : Int) := by omega
          have rj : IntKind.i64.wrap ((K : Int) - 1 : Int) = ((K : Int) - 1 : Int) := by rw [IntKind.wrap_i64]; omega
          obtain ⟨x, hx⟩ : ∃ zz, zz = dk[K]! := ⟨_, rfl⟩
          obtain ⟨y, hy⟩ : ∃ zz, zz = dk[K - 1]! := ⟨_, rfl⟩
          have S3 : Hid (SW encU w0 blk off (swp dk (K) (K - 1)) ((wc.setCell ⟨blk, off + iN, none⟩ (.int .u64 y)).setCell ⟨blk, off + jN, none⟩ (.int .u64 x)).drew) := Lib.hid (by rw [hiN, hjN, hx, hy]; exact swsw S2.out R (K) (K - 1) (by omega) (by omega))
          have ca := swc S2.out R (by omega) (K) (by omega)
          have cb := swc S2.out R (by omega) (K - 1) (by omega)
          have fa := swf S2.out R (by omega) (K) (by omega)
          have fb := swf S2.out R (by omega) (K - 1) (by omega)
          obtain ⟨u, cc⟩ := swc2 S2.out R (by omega) (K) (K - 1) (by omega) (by omega) (.int .u64 y)
          rw [← hjN, ← hiN] at cc
          rw [← hx, ← hiN] at ca
          rw [← hy, ← hjN] at cb
          rw [← hiN] at fa
          rw [← hjN] at fb
          clear S2 hx hy hiN hjN
          go_wp2_with fail
          go_big_region_o
          clear ca cb cc fa fb
          generalize ((wc.setCell ⟨blk, off + iN, none⟩ (.int .u64 y)).setCell ⟨blk, off + jN, none⟩ (.int .u64 x)).drew = w3 at S3 ⊢
          clear ei pi bi ri ej pj bj rj
          obtain ⟨d1, hd1⟩ : ∃ d1, d1 = swp dk K (K - 1) := ⟨_, rfl⟩
          have hs1 : d1.size = n := by rw [hd1, size_swp]; exact hsk
          rw [← hd1] at S3 HG
          clear hd1
          have rka : IntKind.i64.wrap ((K : Int) - (a : Int)) = (K : Int) - (a : Int) := by rw [IntKind.wrap_i64]; omega
          have rk1 : IntKind.i64.wrap ((K : Int) - 1) = (K : Int) - 1 := by rw [IntKind.wrap_i64]; omega
          go_upto_if 61 with fail
          go_cut [] from 13 to 132 (fun wc => Hid (SW encU w0 blk off (fixDown ltInt a K d1) wc))
          case first =>
            by_cases h2 : K - a ≥ 2
            · have h2z : (2 : Int) ≤ (K : Int) - (a : Int) := by omega
              have HF : Hid (fixDown ltInt a K d1 = shiftDown ltInt (K - 1) d1) := Lib.hid (if_pos h2)
              go_wp2_with fail
              go_loopw [9] (fun vq wy => ∃ (q : Nat) (dq : Array Int), vq = .int .i64 q ∧ q ≤ K - 1 ∧ dq.size = n ∧ Hid (SW encU w0 blk off dq wy) ∧ Hid (shiftDown ltInt q dq = shiftDown ltInt (K - 1) d1)) (fun vq _ => (intOf vq).toNat)
              case atStart => exact ⟨K - 1, d1, by congr 1; omega, Nat.le_refl _, hs1, S3, rfl⟩
              case round =>
                clear S3
                obtain ⟨q, dq, rfl, hq, hsq, SA, HQ⟩ := hrel
                by_cases hc : 1 ≤ q
                · have hcz : (1 : Int) ≤ (q : Int) := by omega
                  cases hlv : ltInt dq[q]! dq[q - 1]! with
                  | true =>
                    obtain ⟨iN, hiN⟩ : ∃ zz, zz = q := ⟨_, rfl⟩
                    obtain ⟨jN, hjN⟩ : ∃ zz, zz = q - 1 := ⟨_, rfl⟩
                    have ei : ((q : Int) : Int).toNat = iN := by omega
                    have pi : (0 : Int) ≤ ((q : Int) : Int) := by omega
                    have bi : ((q : Int) : Int) < (n : Int) := by omega
                    have ri : IntKind.i64.wrap ((q : Int) : Int) = ((q : Int) : Int) := by rw [IntKind.wrap_i64]; omega
                    have ej : ((q : Int) - 1 : Int).toNat = jN := by omega
                    have pj : (0 : Int) ≤ ((q : Int) - 1 : Int) := by omega
                    have bj : ((q : Int) - 1 : Int) < (n : Int) := by omega
                    have rj : IntKind.i64.wrap ((q : Int) - 1 : Int) = ((q : Int) - 1 : Int) := by rw [IntKind.wrap_i64]; omega
                    obtain ⟨x, hx⟩ : ∃ zz, zz = dq[q]! := ⟨_, rfl⟩
                    obtain ⟨y, hy⟩ : ∃ zz, zz = dq[q - 1]! := ⟨_, rfl⟩
                    have la := swc SA.out R (by omega) (q) (by omega)
                    have lb := swc SA.out R (by omega) (q - 1) (by omega)
                    rw [← hx, ← hiN] at la
                    rw [← hy, ← hjN] at lb
                    have hd : decide (x < y) = true := by rw [hx, hy]; exact hlv
                    have hd2 : x < y := of_decide_eq_true hd
                    clear hx hy hiN hjN
                    go_wp2_with fail
                    go_quiet (first | (go_at_call 130; refine Calls.quiet_of_same (less64 _ _ _)))
                    have SB : Hid (SW encU w0 blk off dq (wr.drewN nq)) := Lib.hid (SA.out.drewN nq)
                    clear la lb SA
                    generalize wr.drewN nq = wb at SB ⊢
                    clear nq
                    clear ei pi bi ri ej pj bj rj
                    go_wp2_with fail
                    try clear hd hd2
                    obtain ⟨iN, hiN⟩ : ∃ zz, zz = q := ⟨_, rfl⟩
                    obtain ⟨jN, hjN⟩ : ∃ zz, zz = q - 1 := ⟨_, rfl⟩
                    have ei : ((q : Int) : Int).toNat = iN := by omega
                    have pi : (0 : Int) ≤ ((q : Int) : Int) := by omega
                    have bi : ((q : Int) : Int) < (n : Int) := by omega
                    have ri : IntKind.i64.wrap ((q : Int) : Int) = ((q : Int) : Int) := by rw [IntKind.wrap_i64]; omega
                    have ej : ((q : Int) - 1 : Int).toNat = jN := by omega
                    have pj : (0 : Int) ≤ ((q : Int) - 1 : Int) := by omega
                    have bj : ((q : Int) - 1 : Int) < (n : Int) := by omega
                    have rj : IntKind.i64.wrap ((q : Int) - 1 : Int) = ((q : Int) - 1 : Int) := by rw [IntKind.wrap_i64]; omega
                    obtain ⟨x, hx⟩ : ∃ zz, zz = dq[q]! := ⟨_, rfl⟩
                    obtain ⟨y, hy⟩ : ∃ zz, zz = dq[q - 1]! := ⟨_, rfl⟩
                    have SC : Hid (SW encU w0 blk off (swp dq (q) (q - 1)) ((wb.setCell ⟨blk, off + iN, none⟩ (.int .u64 y)).setCell ⟨blk, off + jN, none⟩ (.int .u64 x)).drew) := Lib.hid (by rw [hiN, hjN, hx, hy]; exact swsw SB.out R (q) (q - 1) (by omega) (by omega))
                    have ca := swc SB.out R (by omega) (q) (by omega)
                    have cb := swc SB.out R (by omega) (q - 1) (by omega)
                    have fa := swf SB.out R (by omega) (q) (by omega)
                    have fb := swf SB.out R (by omega) (q - 1) (by omega)
                    obtain ⟨u, cc⟩ := swc2 SB.out R (by omega) (q) (q - 1) (by omega) (by omega) (.int .u64 y)
                    rw [← hjN, ← hiN] at cc
                    rw [← hx, ← hiN] at ca
                    rw [← hy, ← hjN] at cb
                    rw [← hiN] at fa
                    rw [← hjN] at fb
                    clear SB hx hy hiN hjN
                    go_wp2_with fail
                    go_big_region_o
                    clear ca cb cc fa fb
                    generalize ((wb.setCell ⟨blk, off + iN, none⟩ (.int .u64 y)).setCell ⟨blk, off + jN, none⟩ (.int .u64 x)).drew = wd at SC ⊢
                    clear ei pi bi ri ej pj bj rj
                    go_wp2_with fail
                    go_roundw
                    case rel => exact ⟨q - 1, swp dq q (q - 1), by first | go_num | (congr 1; omega), by omega, by rw [size_swp]; exact hsq, SC, Lib.hid (by rw [← HQ.out, shiftDown_go ltInt q dq hc hlv])⟩
                    case measure => first | (simp [intOf]; done) | (simp [intOf]; omega)
                  | false =>
                    obtain ⟨iN, hiN⟩ : ∃ zz, zz = q := ⟨_, rfl⟩
                    obtain ⟨jN, hjN⟩ : ∃ zz, zz = q - 1 := ⟨_, rfl⟩
                    have ei : ((q : Int) : Int).toNat = iN := by omega
                    have pi : (0 : Int) ≤ ((q : Int) : Int) := by omega
                    have bi : ((q : Int) : Int) < (n : Int) := by omega
                    have ri : IntKind.i64.wrap ((q : Int) : Int) = ((q : Int) : Int) := by rw [IntKind.wrap_i64]; omega
                    have ej : ((q : Int) - 1 : Int).toNat = jN := by omega
                    have pj : (0 : Int) ≤ ((q : Int) - 1 : Int) := by omega
                    have bj : ((q : Int) - 1 : Int) < (n : Int) := by omega
                    have rj : IntKind.i64.wrap ((q : Int) - 1 : Int) = ((q : Int) - 1 : Int) := by rw [IntKind.wrap_i64]; omega
                    obtain ⟨x, hx⟩ : ∃ zz, zz = dq[q]! := ⟨_, rfl⟩
                    obtain ⟨y, hy⟩ : ∃ zz, zz = dq[q - 1]! := ⟨_, rfl⟩
                    have la := swc SA.out R (by omega) (q) (by omega)
                    have lb := swc SA.out R (by omega) (q - 1) (by omega)
                    rw [← hx, ← hiN] at la
                    rw [← hy, ← hjN] at lb
                    have hd : decide (x < y) = false := by rw [hx, hy]; exact hlv
                    have hd2 : ¬ x < y := of_decide_eq_false hd
                    clear hx hy hiN hjN
                    go_wp2_with fail
                    go_quiet (first | (go_at_call 130; refine Calls.quiet_of_same (less64 _ _ _)))
                    have SB : Hid (SW encU w0 blk off dq (wr.drewN nq)) := Lib.hid (SA.out.drewN nq)
                    clear la lb SA
                    generalize wr.drewN nq = wb at SB ⊢
                    clear nq
                    clear ei pi bi ri ej pj bj rj
                    go_wp2_with fail
                    go_meet
                    case rel => exact Lib.hid (by rw [HF.out, ← HQ.out, shiftDown_stop ltInt q dq (.inr hlv)]; exact SB.out)
                · have hcz : ¬ (1 : Int) ≤ (q : Int) := by omega
                  go_wp2_with fail
                  go_meet
                  case rel => exact Lib.hid (by rw [HF.out, ← HQ.out, shiftDown_stop ltInt q dq (.inl (by omega))]; exact SA.out)
            · have h2z : ¬ (2 : Int) ≤ (K : Int) - (a : Int) := by omega
              have HF : Hid (fixDown ltInt a K d1 = d1) := Lib.hid (if_neg h2)
              go_wp2_with fail
              go_meet
              case rel => exact Lib.hid (by rw [HF.out]; exact S3.out)
          case rest =>
            clear S3
            have S4 := hcut
            clear hcut
            obtain ⟨d2, hd2⟩ : ∃ d2, d2 = fixDown ltInt a K d1 := ⟨_, rfl⟩
            have hs2 : d2.size = n := by rw [hd2, size_fd64]; exact hs1
            rw [← hd2] at S4 HG
            clear hd2
            have rbk : IntKind.i64.wrap ((b : Int) - (K : Int)) = (b : Int) - (K : Int) := by rw [IntKind.wrap_i64]; omega
            have rk2 : IntKind.i64.wrap ((K : Int) + 1) = (K : Int) + 1 := by rw [IntKind.wrap_i64]; omega
            have hs3 : (fixUp ltInt b K d2).size = n := by rw [size_fu64]; exact hs2
            have HN : Hid (∀ W, SW encU w0 blk off (fixUp ltInt b K d2) W → Hid (partialIns ltInt a b (5 - (st + 1)) K (fixUp ltInt b K d2) = partialIns ltInt a b (5 - 0) (a + 1) d)) := Lib.hid (fun _ _ => Lib.hid (by rw [← HO.out, HG.out]))
            · by_cases h2 : b - K ≥ 2
              · have h2z : (2 : Int) ≤ (b : Int) - (K : Int) := by omega
                have HF : Hid (fixUp ltInt b K d2 = shiftUp ltInt b (K + 1) d2) := Lib.hid (if_pos h2)
                go_wp2_with fail
                go_loopw [10] (fun vq wy => ∃ (q : Nat) (dq : Array Int), vq = .int .i64 q ∧ K + 1 ≤ q ∧ q ≤ b ∧ dq.size = n ∧ Hid (SW encU w0 blk off dq wy) ∧ Hid (shiftUp ltInt b q dq = shiftUp ltInt b (K + 1) d2)) (fun vq _ => b - (intOf vq).toNat)
                case atStart => exact ⟨K + 1, d2, by go_num, Nat.le_refl _, by omega, hs2, S4, rfl⟩
                case round =>
                  clear S4
                  obtain ⟨q, dq, rfl, hq, hqb, hsq, SA, HQ⟩ := hrel
                  by_cases hc : q < b
                  · have hcz : (q : Int) < (b : Int) := by omega
                    cases hlv : ltInt dq[q]! dq[q - 1]! with
                    | true =>
                      obtain ⟨iN, hiN⟩ : ∃ zz, zz = q := ⟨_, rfl⟩
                      obtain ⟨jN, hjN⟩ : ∃ zz, zz = q - 1 := ⟨_, rfl⟩
                      have ei : ((q : Int) : Int).toNat = iN := by omega
                      have pi : (0 : Int) ≤ ((q : Int) : Int) := by omega
                      have bi : ((q : Int) : Int) < (n : Int) := by omega
                      have ri : IntKind.i64.wrap ((q : Int) : Int) = ((q : Int) : Int) := by rw [IntKind.wrap_i64]; omega
                      have ej : ((q : Int) - 1 : Int).toNat = jN := by omega
                      have pj : (0 : Int) ≤ ((q : Int) - 1 : Int) := by omega
                      have bj : ((q : Int) - 1 : Int) < (n : Int) := by omega
                      have rj : IntKind.i64.wrap ((q : Int) - 1 : Int) = ((q : Int) - 1 : Int) := by rw [IntKind.wrap_i64]; omega
                      obtain ⟨x, hx⟩ : ∃ zz, zz = dq[q]! := ⟨_, rfl⟩
                      obtain ⟨y, hy⟩ : ∃ zz, zz = dq[q - 1]! := ⟨_, rfl⟩
                      have la := swc SA.out R (by omega) (q) (by omega)
                      have lb := swc SA.out R (by omega) (q - 1) (by omega)
                      rw [← hx, ← hiN] at la
                      rw [← hy, ← hjN] at lb
                      have hd : decide (x < y) = true := by rw [hx, hy]; exact hlv
                      have hd2 : x < y := of_decide_eq_true hd
                      clear hx hy hiN hjN
                      go_wp2_with fail
                      go_quiet (first | (go_at_call 130; refine Calls.quiet_of_same (less64 _ _ _)))
                      have SB : Hid (SW encU w0 blk off dq (wr.drewN nq)) := Lib.hid (SA.out.drewN nq)
                      clear la lb SA
                      generalize wr.drewN nq = wb at SB ⊢
                      clear nq
                      clear ei pi bi ri ej pj bj rj
                      go_wp2_with fail
                      try clear hd hd2
                      obtain ⟨iN, hiN⟩ : ∃ zz, zz = q := ⟨_, rfl⟩
                      obtain ⟨jN, hjN⟩ : ∃ zz, zz = q - 1 := ⟨_, rfl⟩
                      have ei : ((q : Int) : Int).toNat = iN := by omega
                      have pi : (0 : Int) ≤ ((q : Int) : Int) := by omega
                      have bi : ((q : Int) : Int) < (n : Int) := by omega
                      have ri : IntKind.i64.wrap ((q : Int) : Int) = ((q : Int) : Int) := by rw [IntKind.wrap_i64]; omega
                      have ej : ((q : Int) - 1 : Int).toNat = jN := by omega
                      have pj : (0 : Int) ≤ ((q : Int) - 1 : Int) := by omega
                      have bj : ((q : Int) - 1 : Int) < (n : Int) := by omega
                      have rj : IntKind.i64.wrap ((q : Int) - 1 : Int) = ((q : Int) - 1 : Int) := by rw [IntKind.wrap_i64]; omega
                      obtain ⟨x, hx⟩ : ∃ zz, zz = dq[q]! := ⟨_, rfl⟩
                      obtain ⟨y, hy⟩ : ∃ zz, zz = dq[q - 1]! := ⟨_, rfl⟩
                      have SC : Hid (SW encU w0 blk off (swp dq (q) (q - 1)) ((wb.setCell ⟨blk, off + iN, none⟩ (.int .u64 y)).setCell ⟨blk, off + jN, none⟩ (.int .u64 x)).drew) := Lib.hid (by rw [hiN, hjN, hx, hy]; exact swsw SB.out R (q) (q - 1) (by omega) (by omega))
                      have ca := swc SB.out R (by omega) (q) (by omega)
                      have cb := swc SB.out R (by omega) (q - 1) (by omega)
                      have fa := swf SB.out R (by omega) (q) (by omega)
                      have fb := swf SB.out R (by omega) (q - 1) (by omega)
                      obtain ⟨u, cc⟩ := swc2 SB.out R (by omega) (q) (q - 1) (by omega) (by omega) (.int .u64 y)
                      rw [← hjN, ← hiN] at cc
                      rw [← hx, ← hiN] at ca
                      rw [← hy, ← hjN] at cb
                      rw [← hiN] at fa
                      rw [← hjN] at fb
                      clear SB hx hy hiN hjN
                      go_wp2_with fail
                      go_big_region_o
                      clear ca cb cc fa fb
                      generalize ((wb.setCell ⟨blk, off + iN, none⟩ (.int .u64 y)).setCell ⟨blk, off + jN, none⟩ (.int .u64 x)).drew = wd at SC ⊢
                      clear ei pi bi ri ej pj bj rj
                      go_wp2_with fail
                      go_roundw
                      case rel => exact ⟨q + 1, swp dq q (q - 1), by go_num, by omega, by omega, by rw [size_swp]; exact hsq, SC, Lib.hid (by rw [← HQ.out, shiftUp_go ltInt b q dq hc hlv])⟩
                      case measure => first | (simp [intOf]; done) | (simp [intOf]; omega)
                    | false =>
                      obtain ⟨iN, hiN⟩ : ∃ zz, zz = q := ⟨_, rfl⟩
                      obtain ⟨jN, hjN⟩ : ∃ zz, zz = q - 1 := ⟨_, rfl⟩
                      have ei : ((q : Int) : Int).toNat = iN := by omega
                      have pi : (0 : Int) ≤ ((q : Int) : Int) := by omega
                      have bi : ((q : Int) : Int) < (n : Int) := by omega
                      have ri : IntKind.i64.wrap ((q : Int) : Int) = ((q : Int) : Int) := by rw [IntKind.wrap_i64]; omega
                      have ej : ((q : Int) - 1 : Int).toNat = jN := by omega
                      have pj : (0 : Int) ≤ ((q : Int) - 1 : Int) := by omega
                      have bj : ((q : Int) - 1 : Int) < (n : Int) := by omega
                      have rj : IntKind.i64.wrap ((q : Int) - 1 : Int) = ((q : Int) - 1 : Int) := by rw [IntKind.wrap_i64]; omega
                      obtain ⟨x, hx⟩ : ∃ zz, zz = dq[q]! := ⟨_, rfl⟩
                      obtain ⟨y, hy⟩ : ∃ zz, zz = dq[q - 1]! := ⟨_, rfl⟩
                      have la := swc SA.out R (by omega) (q) (by omega)
                      have lb := swc SA.out R (by omega) (q - 1) (by omega)
                      rw [← hx, ← hiN] at la
                      rw [← hy, ← hjN] at lb
                      have hd : decide (x < y) = false := by rw [hx, hy]; exact hlv
                      have hd2 : ¬ x < y := of_decide_eq_false hd
                      clear hx hy hiN hjN
                      go_wp2_with fail
                      go_quiet (first | (go_at_call 130; refine Calls.quiet_of_same (less64 _ _ _)))
                      have SB : Hid (SW encU w0 blk off dq (wr.drewN nq)) := Lib.hid (SA.out.drewN nq)
                      clear la lb SA
                      generalize wr.drewN nq = wb at SB ⊢
                      clear nq
                      clear ei pi bi ri ej pj bj rj
                      have SZ : Hid (SW encU w0 blk off (fixUp ltInt b K d2) wb) := Lib.hid (by rw [HF.out, ← HQ.out, shiftUp_stop ltInt b q dq (.inr hlv)]; exact SB.out)
                      go_wp2_with fail
                      go_roundw
                      case rel => exact ⟨K, st + 1, fixUp ltInt b K d2, rfl, by go_num, by omega, by omega, by omega, hs3, SZ, HN.out _ SZ.out⟩
                      case measure => first | (simp [intOf]; done) | (simp [intOf]; omega)
                  · have hcz : ¬ (q : Int) < (b : Int) := by omega
                    have SZ : Hid (SW encU w0 blk off (fixUp ltInt b K d2) wr) := Lib.hid (by rw [HF.out, ← HQ.out, shiftUp_stop ltInt b q dq (.inl hc)]; exact SA.out)
                    go_wp2_with fail
                    go_roundw
                    case rel => exact ⟨K, st + 1, fixUp ltInt b K d2, rfl, by go_num, by omega, by omega, by omega, hs3, SZ, HN.out _ SZ.out⟩
                    case measure => first | (simp [intOf]; done) | (simp [intOf]; omega)
              · have h2z : ¬ (2 : Int) ≤ (b : Int) - (K : Int) := by omega
                have HF : Hid (fixUp ltInt b K d2 = d2) := Lib.hid (if_neg h2)
                have SZ := Lib.hid (show SW encU w0 blk off (fixUp ltInt b K d2) wc from by rw [HF.out]; exact S4.out)
                go_wp2_with fail
                go_roundw
                case rel => exact ⟨K, st + 1, fixUp ltInt b K d2, rfl, by go_num, by omega, by omega, by omega, hs3, SZ, HN.out _ SZ.out⟩
                case measure => first | (simp [intOf]; done) | (simp [intOf]; omega)
end Go.Proofs.YtnkdcmibafjplaaGreatDoor
