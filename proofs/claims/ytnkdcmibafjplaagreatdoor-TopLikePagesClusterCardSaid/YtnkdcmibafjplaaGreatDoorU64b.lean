/-
  slices.Sort's family at uint64, part 2: the pivot and the partitions.
-/
import Derived.Test.YtnkdcmibafjplaaGreatDoorU64
import Derived.Sort.WalkC4
import Derived.Sort.LotD4
import Derived.Sort.WalkD1
import Derived.Deep.Cut
namespace Go.Proofs.YtnkdcmibafjplaaGreatDoor
open Go.Shelf Go.RowKit Go.Lib Go.Sort
set_option linter.unusedVariables false
set_option linter.unusedSimpArgs false

/-! ### The counter of swaps: a cell of a block laid since the sort began -/
def CntU (w0 : World) (blk off : Nat) (dk : Array Int) (c s : Nat) (W : World) : Prop :=
  SW encU w0 blk off dk W ∧ W.cell? ⟨c, 0, none⟩ = some (.int .i64 s) ∧ W.frozen? ⟨c, 0, none⟩ = false ∧ w0.heap.size ≤ c
theorem CntU.drewN {w0 : World} {blk off c s : Nat} {dk : Array Int} {W : World} (h : CntU w0 blk off dk c s W) (n : Nat) : CntU w0 blk off dk c s (W.drewN n) := ⟨SW.drewN h.1 n, h.2.1, h.2.2.1, h.2.2.2⟩
theorem CntU.bump {w0 : World} {blk off c s : Nat} {dk : Array Int} {W : World} (h : CntU w0 blk off dk c s W) (t : Nat) : CntU w0 blk off dk c t (W.setCell ⟨c, 0, none⟩ (.int .i64 t)) :=
  ⟨SW.setCell_new h.1 c 0 _ h.2.2.2, World.cell?_setCell_same' _ _ _ (by rw [h.2.1]; rfl), by rw [World.frozen?_setCell]; exact h.2.2.1, h.2.2.2⟩
theorem CntU.start {w0 : World} {blk off : Nat} {dk : Array Int} {W : World} (h : SW encU w0 blk off dk W) (T : TypeId) : CntU w0 blk off dk W.heap.size 0 (W.alloc (.cells #[.int .i64 0] T)) :=
  ⟨SW.alloc h _, by simp, by simp, SW.le h⟩
theorem order2_in {d : Array Int} {a b n : Nat} (s : Nat) (ha : a < n) (hb : b < n) : (order2 ltInt d a b s).1 < n ∧ (order2 ltInt d a b s).2.1 < n := by
  rcases order2_mem ltInt d a b s with ⟨h1, h2⟩ | ⟨h1, h2⟩ <;> rw [h1, h2] <;> exact ⟨by assumption, by assumption⟩
set_option maxHeartbeats 4000000 in
set_option maxRecDepth 1000000 in
theorem order64 (n blk off cap c s a b : Nat) (d0 d : Array Int) (w0 w : World) (R : RowU w0 blk off d0) (hs0 : d0.size = n) (hs : d.size = n) (S : CntU w0 blk off d c s w) (hsz : n < 4611686018427387904) (hsn : s ≤ 1000) (ha : a < n) (hb : b < n) :
    Calls Tryz.prog 191 #[.slice (some ⟨blk, off, none⟩) n cap, .int .i64 a, .int .i64 b, .pointer (some ⟨c, 0, none⟩)] w fun e w' => e = .returned (.tuple #[.int .i64 (order2 ltInt d a b s).1, .int .i64 (order2 ltInt d a b s).2.1]) ∧ CntU w0 blk off d c (order2 ltInt d a b s).2.2 w' := by
  have mixed : Tryz.prog.follows .mixedOrders = true := by kernel_rfl
  have C0 := Lib.hid S
  have S1 := Lib.hid S.1
  clear S
  have hov : IntKind.i64.wrap ((s : Int) + 1) = (s : Int) + 1 := by rw [IntKind.wrap_i64]; omega
  go_enter Tryz.func191, Tryz.ntmps191
  cases hlv : ltInt d[b]! d[a]! with
  | true =>
    have HF : Hid (order2 ltInt d a b s = (b, a, s + 1)) := Lib.hid (by rw [order2, hlv]; rfl)
    obtain ⟨iN, hiN⟩ : ∃ zz, zz = b := ⟨_, rfl⟩
    obtain ⟨jN, hjN⟩ : ∃ zz, zz = a := ⟨_, rfl⟩
    have ei : ((b : Int) : Int).toNat = iN := by omega
    have pi : (0 : Int) ≤ ((b : Int) : Int) := by omega
    have bi : ((b : Int) : Int) < (n : Int) := by omega
    have ri : IntKind.i64.wrap ((b : Int) : Int) = ((b : Int) : Int) := by rw [IntKind.wrap_i64]; omega
    have ej : ((a : Int) : Int).toNat = jN := by omega
    have pj : (0 : Int) ≤ ((a : Int) : Int) := by omega
    have bj : ((a : Int) : Int) < (n : Int) := by omega
    have rj : IntKind.i64.wrap ((a : Int) : Int) = ((a : Int) : Int) := by rw [IntKind.wrap_i64]; omega
    obtain ⟨x, hx⟩ : ∃ zz, zz = d[b]! := ⟨_, rfl⟩
    obtain ⟨y, hy⟩ : ∃ zz, zz = d[a]! := ⟨_, rfl⟩
    have la := swc S1.out R (by omega) (b) (by omega)
    have lb := swc S1.out R (by omega) (a) (by omega)
    rw [← hx, ← hiN] at la
    rw [← hy, ← hjN] at lb
    have hd : decide (x < y) = true := by rw [hx, hy]; exact hlv
    have hd2 : x < y := of_decide_eq_true hd
    clear hx hy hiN hjN
    go_wp2_with fail
    go_quiet (first | (go_at_call 130; refine Calls.quiet_of_same (less64 _ _ _)))
    have S2 : Hid (SW encU w0 blk off d (w.drewN nq)) := Lib.hid (S1.out.drewN nq)
    have C2 := Lib.hid (C0.out.drewN nq)
    clear la lb S1 C0
    generalize w.drewN nq = w2 at S2 C2 ⊢
    clear nq
    clear ei pi bi ri ej pj bj rj
    have cc : w2.cell? ⟨c, 0, none⟩ = some (.int .i64 s) := C2.out.2.1
    have fc : w2.frozen? ⟨c, 0, none⟩ = false := C2.out.2.2.1
    have HC3 := Lib.hid (C2.out.bump (s + 1))
    clear C2 S2
    go_wp2_with fail
    go_ret2
    exact ⟨by rw [HF.out]; rfl, by rw [HF.out]; exact HC3.out⟩
  | false =>
    have HF : Hid (order2 ltInt d a b s = (a, b, s)) := Lib.hid (by rw [order2, hlv]; rfl)
    obtain ⟨iN, hiN⟩ : ∃ zz, zz = b := ⟨_, rfl⟩
    obtain ⟨jN, hjN⟩ : ∃ zz, zz = a := ⟨_, rfl⟩
    have ei : ((b : Int) : Int).toNat = iN := by omega
    have pi : (0 : Int) ≤ ((b : Int) : Int) := by omega
    have bi : ((b : Int) : Int) < (n : Int) := by omega
    have ri : IntKind.i64.wrap ((b : Int) : Int) = ((b : Int) : Int) := by rw [IntKind.wrap_i64]; omega
    have ej : ((a : Int) : Int).toNat = jN := by omega
    have pj : (0 : Int) ≤ ((a : Int) : Int) := by omega
    have bj : ((a : Int) : Int) < (n : Int) := by omega
    have rj : IntKind.i64.wrap ((a : Int) : Int) = ((a : Int) : Int) := by rw [IntKind.wrap_i64]; omega
    obtain ⟨x, hx⟩ : ∃ zz, zz = d[b]! := ⟨_, rfl⟩
    obtain ⟨y, hy⟩ : ∃ zz, zz = d[a]! := ⟨_, rfl⟩
    have la := swc S1.out R (by omega) (b) (by omega)
    have lb := swc S1.out R (by omega) (a) (by omega)
    rw [← hx, ← hiN] at la
    rw [← hy, ← hjN] at lb
    have hd : decide (x < y) = false := by rw [hx, hy]; exact hlv
    have hd2 : ¬ x < y := of_decide_eq_false hd
    clear hx hy hiN hjN
    go_wp2_with fail
    go_quiet (first | (go_at_call 130; refine Calls.quiet_of_same (less64 _ _ _)))
    have S2 : Hid (SW encU w0 blk off d (w.drewN nq)) := Lib.hid (S1.out.drewN nq)
    have C2 := Lib.hid (C0.out.drewN nq)
    clear la lb S1 C0
    generalize w.drewN nq = w2 at S2 C2 ⊢
    clear nq
    clear ei pi bi ri ej pj bj rj
    go_wp2_with fail
    go_ret2
    exact ⟨by rw [HF.out]; rfl, by rw [HF.out]; exact C2.out⟩
set_option maxHeartbeats 4000000 in
set_option maxRecDepth 1000000 in
theorem median64 (n blk off cap c s a b m : Nat) (d0 d : Array Int) (w0 w : World) (R : RowU w0 blk off d0) (hs0 : d0.size = n) (hs : d.size = n) (S : CntU w0 blk off d c s w) (hsz : n < 4611686018427387904) (hsn : s ≤ 100) (ha : a < n) (hb : b < n) (hm : m < n) :
    Calls Tryz.prog 167 #[.slice (some ⟨blk, off, none⟩) n cap, .int .i64 a, .int .i64 b, .int .i64 m, .pointer (some ⟨c, 0, none⟩)] w fun e w' => e = .returned (.int .i64 (Sort.median ltInt d a b m s).1) ∧ CntU w0 blk off d c (Sort.median ltInt d a b m s).2 w' := by
  have S0 := Lib.hid S
  clear S
  obtain ⟨i1, j1, s1, h1⟩ : ∃ i1 j1 s1, order2 ltInt d a b s = (i1, j1, s1) := ⟨_, _, _, rfl⟩
  obtain ⟨i2, j2, s2, h2⟩ : ∃ i2 j2 s2, order2 ltInt d j1 m s1 = (i2, j2, s2) := ⟨_, _, _, rfl⟩
  obtain ⟨i3, j3, s3, h3⟩ : ∃ i3 j3 s3, order2 ltInt d i1 i2 s2 = (i3, j3, s3) := ⟨_, _, _, rfl⟩
  have b1 := order2_in (d := d) s ha hb; rw [h1] at b1
  have n1 := order2_count ltInt d a b s; rw [h1] at n1
  have b2 := order2_in (d := d) s1 b1.2 hm; rw [h2] at b2
  have n2 := order2_count ltInt d j1 m s1; rw [h2] at n2
  dsimp only at b1 b2 n1 n2
  have HM : Hid (Sort.median ltInt d a b m s = (j3, s3)) := Lib.hid (by simp only [Sort.median, h1, h2, h3])
  have c1 := Lib.hid (order64 n blk off cap c s a b d0 d w0 w R hs0 hs S0.out hsz (by omega) ha hb)
  rw [h1] at c1
  dsimp only at c1
  have c2 := Lib.hid (fun W (h : CntU w0 blk off d c s1 W) => order64 n blk off cap c s1 j1 m d0 d w0 W R hs0 hs h hsz (by omega) b1.2 hm)
  rw [h2] at c2
  dsimp only at c2
  have c3 := Lib.hid (fun W (h : CntU w0 blk off d c s2 W) => order64 n blk off cap c s2 i1 i2 d0 d w0 W R hs0 hs h hsz (by omega) b1.1 b2.1)
  rw [h3] at c3
  dsimp only at c3
  clear h1 h2 h3 b1 b2 n1 n2 S0
  go_enter Tryz.func167, Tryz.ntmps167
  go_wp2_with fail
  refine c1.out.mono ?_
  rintro e w1 ⟨rfl, C1⟩
  have D1 := Lib.hid C1
  clear C1
  go_wp2_with fail
  refine (c2.out _ D1.out).mono ?_
  rintro e w2 ⟨rfl, C2⟩
  have D2 := Lib.hid C2
  clear C2 D1
  go_wp2_with fail
  refine (c3.out _ D2.out).mono ?_
  rintro e w3 ⟨rfl, C3⟩
  have D3 := Lib.hid C3
  clear C3 D2
  go_wp2_with fail
  go_ret
  exact ⟨by rw [HM.out]; rfl, by rw [HM.out]; exact D3.out⟩
set_option maxHeartbeats 4000000 in
set_option maxRecDepth 1000000 in
theorem medianA64 (n blk off cap c s a : Nat) (d0 d : Array Int) (w0 w : World) (R : RowU w0 blk off d0) (hs0 : d0.size = n) (hs : d.size = n) (S : CntU w0 blk off d c s w) (hsz : n < 4611686018427387904) (hsn : s ≤ 100) (h0 : 0 < a) (ha : a + 1 < n) :
    Calls Tryz.prog 166 #[.slice (some ⟨blk, off, none⟩) n cap, .int .i64 a, .pointer (some ⟨c, 0, none⟩)] w fun e w' => e = .returned (.int .i64 (Sort.medianAdjacent ltInt d a s).1) ∧ CntU w0 blk off d c (Sort.medianAdjacent ltInt d a s).2 w' := by
  have c1 := Lib.hid (median64 n blk off cap c s (a - 1) a (a + 1) d0 d w0 w R hs0 hs S hsz hsn (by omega) (by omega) ha)
  have HM : Hid (Sort.medianAdjacent ltInt d a s = Sort.median ltInt d (a - 1) a (a + 1) s) := Lib.hid rfl
  rw [HM.out]
  clear HM S
  rw [show ((a - 1 : Nat) : Int) = (a : Int) - 1 by omega, show ((a + 1 : Nat) : Int) = (a : Int) + 1 by omega] at c1
  generalize Sort.median ltInt d (a - 1) a (a + 1) s = r at *
  obtain ⟨r1, r2⟩ := r
  have w1 : IntKind.i64.wrap ((a : Int) - 1) = (a : Int) - 1 := by rw [IntKind.wrap_i64]; omega
  have w2 : IntKind.i64.wrap ((a : Int) + 1) = (a : Int) + 1 := by rw [IntKind.wrap_i64]; omega
  go_enter Tryz.func166, Tryz.ntmps166
  go_wp2_with fail
  refine c1.out.mono ?_
  rintro e w3 ⟨rfl, C3⟩
  have D3 := Lib.hid C3
  clear C3
  go_wp2_with fail
  go_ret
  exact ⟨rfl, D3.out⟩
set_option maxHeartbeats 4000000 in
set_option maxRecDepth 1000000 in
theorem pivot64 (n blk off cap a b : Nat) (d0 d : Array Int) (w0 w : World) (R : RowU w0 blk off d0) (hs0 : d0.size = n) (hs : d.size = n) (S : SW encU w0 blk off d w) (hsz : n < 4611686018427387904) (hab : a < b) (hb : b ≤ n) :
    Calls Tryz.prog 127 #[.slice (some ⟨blk, off, none⟩) n cap, .int .i64 a, .int .i64 b] w fun e w' => e = .returned (.tuple #[.int .i64 (choosePivot ltInt d a b).1, .int .i64 (hintCode (choosePivot ltInt d a b).2)]) ∧ SW encU w0 blk off d w' := by
  rw [choosePivot_eq]
  obtain ⟨I, hI⟩ : ∃ I : Nat, I = a + (b - a) / 4 * 1 := ⟨_, rfl⟩
  obtain ⟨J, hJ⟩ : ∃ J : Nat, J = a + (b - a) / 4 * 2 := ⟨_, rfl⟩
  obtain ⟨K, hK⟩ : ∃ K : Nat, K = a + (b - a) / 4 * 3 := ⟨_, rfl⟩
  have rl : IntKind.i64.wrap ((b : Int) - (a : Int)) = (b : Int) - (a : Int) := by rw [IntKind.wrap_i64]; omega
  have eI : ((a : Int) + ((b : Int) - (a : Int)) / 4) = (I : Int) := by omega
  have eJ : ((a : Int) + ((b : Int) - (a : Int)) / 4 * 2) = (J : Int) := by omega
  have eK : ((a : Int) + ((b : Int) - (a : Int)) / 4 * 3) = (K : Int) := by omega
  have CS := Lib.hid (CntU.start S 3)
  clear S
  obtain ⟨cb, hcb⟩ : ∃ cb, cb = w.heap.size := ⟨_, rfl⟩
  have HCB := Lib.hid hcb
  rw [← hcb] at CS
  clear hcb
  have FIN : Hid (∀ p s (W : World), rawPivot ltInt d a b = (p, s) → CntU w0 blk off d cb s W → ∀ v, v = Value.tuple #[.int .i64 p, .int .i64 (hintCode (hintOf s))] → (Ending.returned v = .returned (.tuple #[.int .i64 (rawPivot ltInt d a b).1, .int .i64 (hintCode (hintOf (rawPivot ltInt d a b).2))]) ∧ SW encU w0 blk off d W)) := Lib.hid (fun p s W h hc v hv => by rw [hv, h]; exact ⟨rfl, hc.1⟩)
  by_cases h8 : b - a ≥ 8
  · by_cases h50 : b - a ≥ 50
    · obtain ⟨i1, s1, h1⟩ : ∃ i1 s1, medianAdjacent ltInt d I 0 = (i1, s1) := ⟨_, _, rfl⟩
      obtain ⟨j1, s2, h2⟩ : ∃ j1 s2, medianAdjacent ltInt d J s1 = (j1, s2) := ⟨_, _, rfl⟩
      obtain ⟨k1, s3, h3⟩ : ∃ k1 s3, medianAdjacent ltInt d K s2 = (k1, s3) := ⟨_, _, rfl⟩
      obtain ⟨p, s, h4⟩ : ∃ p s, Sort.median ltInt d i1 j1 k1 s3 = (p, s) := ⟨_, _, rfl⟩
      have HRAW : Hid (rawPivot ltInt d a b = (p, s)) := Lib.hid (by simp only [rawPivot, if_pos h8, if_pos h50, ← hI, ← hJ, ← hK, h1, h2, h3, h4])
      have m1 := medianAdjacent_mem ltInt d I 0; rw [h1] at m1
      have m2 := medianAdjacent_mem ltInt d J s1; rw [h2] at m2
      have m3 := medianAdjacent_mem ltInt d K s2; rw [h3] at m3
      have n1 := medianAdjacent_count ltInt d I 0; rw [h1] at n1
      have n2 := medianAdjacent_count ltInt d J s1; rw [h2] at n2
      have n3 := medianAdjacent_count ltInt d K s2; rw [h3] at n3
      dsimp only at m1 m2 m3 n1 n2 n3
      have c1 := Lib.hid (fun W (h : CntU w0 blk off d cb 0 W) => medianA64 n blk off cap cb 0 I d0 d w0 W R hs0 hs h hsz (by omega) (by omega) (by omega))
      rw [h1] at c1
      dsimp only at c1
      have c2 := Lib.hid (fun W (h : CntU w0 blk off d cb s1 W) => medianA64 n blk off cap cb s1 J d0 d w0 W R hs0 hs h hsz (by omega) (by omega) (by omega))
      rw [h2] at c2
      dsimp only at c2
      have c3 := Lib.hid (fun W (h : CntU w0 blk off d cb s2 W) => medianA64 n blk off cap cb s2 K d0 d w0 W R hs0 hs h hsz (by omega) (by omega) (by omega))
      rw [h3] at c3
      dsimp only at c3
      have c4 := Lib.hid (fun W (h : CntU w0 blk off d cb s3 W) => median64 n blk off cap cb s3 i1 j1 k1 d0 d w0 W R hs0 hs h hsz (by omega) (by omega) (by omega) (by omega))
      rw [h4] at c4
      dsimp only at c4
      have l8 : (8 : Int) ≤ (b : Int) - (a : Int) := by omega
      have l50 : (50 : Int) ≤ (b : Int) - (a : Int) := by omega
      clear h1 h2 h3 h4 m1 m2 m3 n1 n2 n3 hI hJ hK
      go_enter Tryz.func127, Tryz.ntmps127
      go_wp2_with fail
      rw [← HCB.out]
      generalize w.alloc (.cells #[.int .i64 0] 3) = wa at *
      refine (c1.out _ CS.out).mono ?_
      rintro e w1 ⟨rfl, C1⟩
      have D1 := Lib.hid C1
      clear C1 CS
      go_wp2_with fail
      refine (c2.out _ D1.out).mono ?_
      rintro e w2 ⟨rfl, C2⟩
      have D2 := Lib.hid C2
      clear C2 D1
      go_wp2_with fail
      refine (c3.out _ D2.out).mono ?_
      rintro e w3 ⟨rfl, C3⟩
      have D3 := Lib.hid C3
      clear C3 D2
      go_wp2_with fail
      refine (c4.out _ D3.out).mono ?_
      rintro e w4 ⟨rfl, C4⟩
      have D9 := Lib.hid C4
      clear C4 D3
      have cc : w4.cell? ⟨cb, 0, none⟩ = some (.int .i64 s) := D9.out.2.1
      by_cases s0 : s = 0
      · have HFF := Lib.hid (FIN.out p s w4 HRAW.out D9.out (.tuple #[.int .i64 p, .int .i64 1]) (by rw [s0]; rfl))
        have s0' : (s : Int) = 0 := by omega
        rw [s0'] at cc
        clear s0 s0' FIN HRAW
        go_wp2_with fail
        go_ret2
        exact HFF.out
      · by_cases s12 : s = 12
        · have HFF := Lib.hid (FIN.out p s w4 HRAW.out D9.out (.tuple #[.int .i64 p, .int .i64 2]) (by rw [s12]; rfl))
          have s0' : (s : Int) = 12 := by omega
          rw [s0'] at cc
          clear s0 s12 s0' FIN HRAW
          go_wp2_with fail
          go_ret2
          exact HFF.out
        · have HFF := Lib.hid (FIN.out p s w4 HRAW.out D9.out (.tuple #[.int .i64 p, .int .i64 0]) (by unfold hintOf; rw [if_neg s0, if_neg s12]; rfl))
          have s0' : ((s : Int) == 0) = false := by rw [beq_eq_false_iff_ne]; omega
          have s1' : ((s : Int) == 12) = false := by rw [beq_eq_false_iff_ne]; omega
          clear s0 s12 FIN HRAW
          go_wp2_with fail
          go_ret2
          exact HFF.out
    · obtain ⟨p, s, h4⟩ : ∃ p s, Sort.median ltInt d I J K 0 = (p, s) := ⟨_, _, rfl⟩
      have HRAW : Hid (rawPivot ltInt d a b = (p, s)) := Lib.hid (by simp only [rawPivot, if_pos h8, if_neg h50, ← hI, ← hJ, ← hK, h4])
      have c4 := Lib.hid (fun W (h : CntU w0 blk off d cb 0 W) => median64 n blk off cap cb 0 I J K d0 d w0 W R hs0 hs h hsz (by omega) (by omega) (by omega) (by omega))
      rw [h4] at c4
      dsimp only at c4
      have l8 : (8 : Int) ≤ (b : Int) - (a : Int) := by omega
      have l50 : ¬ (50 : Int) ≤ (b : Int) - (a : Int) := by omega
      clear h4 hI hJ hK
      go_enter Tryz.func127, Tryz.ntmps127
      go_wp2_with fail
      rw [← HCB.out]
      generalize w.alloc (.cells #[.int .i64 0] 3) = wa at *
      refine (c4.out _ CS.out).mono ?_
      rintro e w4 ⟨rfl, C4⟩
      have D9 := Lib.hid C4
      clear C4 CS
      have cc : w4.cell? ⟨cb, 0, none⟩ = some (.int .i64 s) := D9.out.2.1
      by_cases s0 : s = 0
      · have HFF := Lib.hid (FIN.out p s w4 HRAW.out D9.out (.tuple #[.int .i64 p, .int .i64 1]) (by rw [s0]; rfl))
        have s0' : (s : Int) = 0 := by omega
        rw [s0'] at cc
        clear s0 s0' FIN HRAW
        go_wp2_with fail
        go_ret2
        exact HFF.out
      · by_cases s12 : s = 12
        · have HFF := Lib.hid (FIN.out p s w4 HRAW.out D9.out (.tuple #[.int .i64 p, .int .i64 2]) (by rw [s12]; rfl))
          have s0' : (s : Int) = 12 := by omega
          rw [s0'] at cc
          clear s0 s12 s0' FIN HRAW
          go_wp2_with fail
          go_ret2
          exact HFF.out
        · have HFF := Lib.hid (FIN.out p s w4 HRAW.out D9.out (.tuple #[.int .i64 p, .int .i64 0]) (by unfold hintOf; rw [if_neg s0, if_neg s12]; rfl))
          have s0' : ((s : Int) == 0) = false := by rw [beq_eq_false_iff_ne]; omega
          have s1' : ((s : Int) == 12) = false := by rw [beq_eq_false_iff_ne]; omega
          clear s0 s12 FIN HRAW
          go_wp2_with fail
          go_ret2
          exact HFF.out
  · have HRAW : Hid (rawPivot ltInt d a b = (J, 0)) := Lib.hid (by simp only [rawPivot, if_neg h8, ← hJ])
    have l8 : ¬ (8 : Int) ≤ (b : Int) - (a : Int) := by omega
    clear hI hJ hK
    go_enter Tryz.func127, Tryz.ntmps127
    go_wp2_with fail
    rw [← HCB.out]
    generalize w.alloc (.cells #[.int .i64 0] 3) = wa at *
    have D9 := CS
    have cc : wa.cell? ⟨cb, 0, none⟩ = some (.int .i64 0) := D9.out.2.1
    have HFF := Lib.hid (FIN.out J 0 wa HRAW.out D9.out (.tuple #[.int .i64 J, .int .i64 1]) rfl)
    clear FIN HRAW
    go_wp2_with fail
    go_ret2
    exact HFF.out
end Go.Proofs.YtnkdcmibafjplaaGreatDoor
