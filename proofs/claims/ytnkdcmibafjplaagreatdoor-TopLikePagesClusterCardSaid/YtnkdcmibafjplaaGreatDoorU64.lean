/-
  slices.Sort's family at uint64, part 1: the program computes what the library's plain layer says: Less, insertion, reverse, heap.
-/
import Derived.Test.YtnkdcmibafjplaaGreatDoorProg
import Derived.Shelf.GgSortFunc.SW
import Derived.Shelf.RegionOpenPlain
import Derived.Sort.WalkA
import Derived.Sort.WalkB2
import Derived.Sort.WalkB12
import Derived.Sort.WalkB3
import Derived.Sort.LotD4
import Derived.Lib.Hide
namespace Go.Proofs.YtnkdcmibafjplaaGreatDoor
open Go.Shelf Go.RowKit Go.Lib Go.Sort
set_option linter.unusedVariables false
set_option linter.unusedSimpArgs false

def encU : Int → Value := Value.int .u64
/-- What the family is told of the row, once. -/
structure RowU (w0 : World) (blk off : Nat) (d0 : Array Int) : Prop where
  hH : Holds encU w0 blk off d0
  hblk : blk < w0.heap.size
section
variable {w0 W : World} {blk off : Nat} {dk d0 : Array Int}
theorem swc (h : SW encU w0 blk off dk W) (R : RowU w0 blk off d0) (hs : dk.size = d0.size) (i : Nat) (hi : i < dk.size) : W.cell? ⟨blk, off + i, none⟩ = some (.int .u64 dk[i]!) := (h.holds R.hblk R.hH hs i hi).1
theorem swf (h : SW encU w0 blk off dk W) (R : RowU w0 blk off d0) (hs : dk.size = d0.size) (i : Nat) (hi : i < dk.size) : W.frozen? ⟨blk, off + i, none⟩ = false := (h.holds R.hblk R.hH hs i hi).2
theorem swc2 (h : SW encU w0 blk off dk W) (R : RowU w0 blk off d0) (hs : dk.size = d0.size) (i j : Nat) (hi : i < dk.size) (hj : j < dk.size) (v : Value) :
    ∃ u, (W.setCell ⟨blk, off + i, none⟩ v).cell? ⟨blk, off + j, none⟩ = some u := by
  by_cases e : i = j
  · subst e; exact ⟨v, World.cell?_setCell_same _ _ _ (swc h R hs i hi)⟩
  · exact ⟨_, (World.cell?_setCell_other _ _ _ _ (by intro e'; simp only [Addr.mk.injEq] at e'; omega)).trans (swc h R hs j hj)⟩
theorem swsw (h : SW encU w0 blk off dk W) (R : RowU w0 blk off d0) (i j : Nat) (hi : i < dk.size) (hj : j < dk.size) :
    SW encU w0 blk off (swp dk i j) ((W.setCell ⟨blk, off + i, none⟩ (.int .u64 dk[j]!)).setCell ⟨blk, off + j, none⟩ (.int .u64 dk[i]!)).drew := (h.swap R.hblk i j hi hj).drewN 1
end
theorem nan64 (x : Int) (w : World) : Calls Tryz.prog 168 #[.int .u64 x] w fun e w' => e = .returned (.bool false) ∧ w' = w := by
  go_enter Tryz.func168, Tryz.ntmps168
  have hx : (x != x) = false := by simp
  go_wp2_with fail
  go_ret
  exact ⟨by simp, rfl⟩
theorem less64 (x y : Int) (w : World) : Calls Tryz.prog 130 #[.int .u64 x, .int .u64 y] w fun e w' => e = .returned (.bool (decide (x < y))) ∧ w' = w := by
  go_enter Tryz.func130, Tryz.ntmps130
  go_wp2_with (go_at_call 168; refine (nan64 _ _).mono ?_; rintro e w' ⟨rfl, rfl⟩)
  go_ret
  exact ⟨rfl, rfl⟩
set_option maxHeartbeats 4000000 in
set_option maxRecDepth 1000000 in
theorem insert64 (n blk off cap a b : Nat) (d0 d : Array Int) (w0 w : World) (R : RowU w0 blk off d0) (hs0 : d0.size = n) (hs : d.size = n) (S : SW encU w0 blk off d w) (hsz : n < 4611686018427387904) (hab : a ≤ b) (hb : b ≤ n) :
    Calls Tryz.prog 124 #[.slice (some ⟨blk, off, none⟩) n cap, .int .i64 a, .int .i64 b] w fun e w' => e = .returned (.tuple #[]) ∧ SW encU w0 blk off (Sort.insertionSort ltInt d a b) w' := by
  have mixed : Tryz.prog.follows .mixedOrders = true := by kernel_rfl
  have S0 := Lib.hid S
  clear S
  go_enter Tryz.func124, Tryz.ntmps124
  go_wp2_with fail
  go_loopw [6] (fun vi wr => ∃ (i : Nat) (dk : Array Int), vi = .int .i64 i ∧ a < i ∧ i ≤ b + 1 ∧ dk.size = n ∧ Hid (SW encU w0 blk off dk wr) ∧ Hid (insOuter ltInt a b i dk = insOuter ltInt a b (a + 1) d)) (fun vi _ => b + 1 - (intOf vi).toNat)
  case atStart => exact ⟨a + 1, d, by go_num, by omega, by omega, hs, S0, rfl⟩
  case round =>
    clear S0
    obtain ⟨i, dk, rfl, hai, hib, hsk, S1, HO⟩ := hrel
    by_cases hlt : i < b
    · have hltz : (i : Int) < (b : Int) := by omega
      go_wp2_with fail
      go_loopw [7] (fun vj wr2 => ∃ (j : Nat) (dj : Array Int), vj = .int .i64 j ∧ a ≤ j ∧ j ≤ i ∧ dj.size = n ∧ Hid (SW encU w0 blk off dj wr2) ∧ Hid (insInner ltInt a j dj = insInner ltInt a i dk)) (fun vj _ => (intOf vj).toNat)
      case atStart => exact ⟨i, dk, rfl, by omega, Nat.le_refl _, hsk, S1, rfl⟩
      case round =>
        clear S1
        obtain ⟨j, dj, rfl, haj, hji, hsj, SJ, HI⟩ := hrel
        have OUT : Hid ((j ≤ a ∨ ltInt dj[j]! dj[j - 1]! = false) → Hid (insOuter ltInt a b (i + 1) dj = insOuter ltInt a b (a + 1) d)) := Lib.hid (fun hs => Lib.hid (by rw [← HO.out, insOuter_go _ _ _ _ _ hlt, ← HI.out, insInner_stop _ _ _ _ hs]))
        by_cases hja : a < j
        · obtain ⟨jp, hjp⟩ : ∃ q, q + 1 = j := ⟨j - 1, by omega⟩
          have zjp : (j : Int) = (jp : Int) + 1 := by omega
          have hjad : decide ((jp : Int) + 1 > (a : Int)) = true := decide_eq_true (by omega)
          have hjaz' : (a : Int) < (jp : Int) + 1 := by omega
          cases hlv : ltInt dj[j]! dj[j - 1]! with
          | true =>
            obtain ⟨iN, hiN⟩ : ∃ zz, zz = j := ⟨_, rfl⟩
            obtain ⟨jN, hjN⟩ : ∃ zz, zz = j - 1 := ⟨_, rfl⟩
            have ei : ((jp : Int) + 1 : Int).toNat = iN := by omega
            have pi : (0 : Int) ≤ ((jp : Int) + 1 : Int) := by omega
            have bi : ((jp : Int) + 1 : Int) < (n : Int) := by omega
            have ri : IntKind.i64.wrap ((jp : Int) + 1 : Int) = ((jp : Int) + 1 : Int) := by rw [IntKind.wrap_i64]; omega
            have ej : ((jp : Int) : Int).toNat = jN := by omega
            have pj : (0 : Int) ≤ ((jp : Int) : Int) := by omega
            have bj : ((jp : Int) : Int) < (n : Int) := by omega
            have rj : IntKind.i64.wrap ((jp : Int) : Int) = ((jp : Int) : Int) := by rw [IntKind.wrap_i64]; omega
            obtain ⟨x, hx⟩ : ∃ zz, zz = dj[j]! := ⟨_, rfl⟩
            obtain ⟨y, hy⟩ : ∃ zz, zz = dj[j - 1]! := ⟨_, rfl⟩
            have la := swc SJ.out R (by omega) (j) (by omega)
            have lb := swc SJ.out R (by omega) (j - 1) (by omega)
            rw [← hx, ← hiN] at la
            rw [← hy, ← hjN] at lb
            have hd : decide (x < y) = true := by rw [hx, hy]; exact hlv
            have hd2 : x < y := of_decide_eq_true hd
            clear hx hy hiN hjN
            go_wp2_with fail
            go_quiet (first | (go_at_call 130; refine Calls.quiet_of_same (less64 _ _ _)))
            have S2 : Hid (SW encU w0 blk off dj (wr.drewN nq)) := Lib.hid (SJ.out.drewN nq)
            clear la lb SJ hd hd2
            generalize wr.drewN nq = w2 at S2 ⊢
            clear nq
            clear ei pi bi ri ej pj bj rj
            obtain ⟨iN, hiN⟩ : ∃ zz, zz = j := ⟨_, rfl⟩
            obtain ⟨jN, hjN⟩ : ∃ zz, zz = j - 1 := ⟨_, rfl⟩
            have ei : ((jp : Int) + 1 : Int).toNat = iN := by omega
            have pi : (0 : Int) ≤ ((jp : Int) + 1 : Int) := by omega
            have bi : ((jp : Int) + 1 : Int) < (n : Int) := by omega
            have ri : IntKind.i64.wrap ((jp : Int) + 1 : Int) = ((jp : Int) + 1 : Int) := by rw [IntKind.wrap_i64]; omega
            have ej : ((jp : Int) : Int).toNat = jN := by omega
            have pj : (0 : Int) ≤ ((jp : Int) : Int) := by omega
            have bj : ((jp : Int) : Int) < (n : Int) := by omega
            have rj : IntKind.i64.wrap ((jp : Int) : Int) = ((jp : Int) : Int) := by rw [IntKind.wrap_i64]; omega
            obtain ⟨x, hx⟩ : ∃ zz, zz = dj[j]! := ⟨_, rfl⟩
            obtain ⟨y, hy⟩ : ∃ zz, zz = dj[j - 1]! := ⟨_, rfl⟩
            have S3 : Hid (SW encU w0 blk off (swp dj (j) (j - 1)) ((w2.setCell ⟨blk, off + iN, none⟩ (.int .u64 y)).setCell ⟨blk, off + jN, none⟩ (.int .u64 x)).drew) := Lib.hid (by rw [hiN, hjN, hx, hy]; exact swsw S2.out R (j) (j - 1) (by omega) (by omega))
            have ca := swc S2.out R (by omega) (j) (by omega)
            have cb := swc S2.out R (by omega) (j - 1) (by omega)
            have fa := swf S2.out R (by omega) (j) (by omega)
            have fb := swf S2.out R (by omega) (j - 1) (by omega)
            obtain ⟨u, cc⟩ := swc2 S2.out R (by omega) (j) (j - 1) (by omega) (by omega) (.int .u64 y)
            rw [← hjN, ← hiN] at cc
            rw [← hx, ← hiN] at ca
            rw [← hy, ← hjN] at cb
            rw [← hiN] at fa
            rw [← hjN] at fb
            clear S2 hx hy hiN hjN
            go_wp2_with fail
            go_big_region_o
            clear ca cb cc fa fb
            generalize ((w2.setCell ⟨blk, off + iN, none⟩ (.int .u64 y)).setCell ⟨blk, off + jN, none⟩ (.int .u64 x)).drew = w3 at S3 ⊢
            clear ei pi bi ri ej pj bj rj
            go_wp2_with fail
            go_roundw
            case rel => exact ⟨j - 1, swp dj j (j - 1), by first | rfl | go_num | (congr 1; omega), by omega, by omega, by rw [size_swp]; exact hsj, S3, Lib.hid (by rw [← HI.out, insInner_go ltInt a j dj hja hlv])⟩
            case measure => simp [intOf]; omega
          | false =>
            obtain ⟨iN, hiN⟩ : ∃ zz, zz = j := ⟨_, rfl⟩
            obtain ⟨jN, hjN⟩ : ∃ zz, zz = j - 1 := ⟨_, rfl⟩
            have ei : ((jp : Int) + 1 : Int).toNat = iN := by omega
            have pi : (0 : Int) ≤ ((jp : Int) + 1 : Int) := by omega
            have bi : ((jp : Int) + 1 : Int) < (n : Int) := by omega
            have ri : IntKind.i64.wrap ((jp : Int) + 1 : Int) = ((jp : Int) + 1 : Int) := by rw [IntKind.wrap_i64]; omega
            have ej : ((jp : Int) : Int).toNat = jN := by omega
            have pj : (0 : Int) ≤ ((jp : Int) : Int) := by omega
            have bj : ((jp : Int) : Int) < (n : Int) := by omega
            have rj : IntKind.i64.wrap ((jp : Int) : Int) = ((jp : Int) : Int) := by rw [IntKind.wrap_i64]; omega
            obtain ⟨x, hx⟩ : ∃ zz, zz = dj[j]! := ⟨_, rfl⟩
            obtain ⟨y, hy⟩ : ∃ zz, zz = dj[j - 1]! := ⟨_, rfl⟩
            have la := swc SJ.out R (by omega) (j) (by omega)
            have lb := swc SJ.out R (by omega) (j - 1) (by omega)
            rw [← hx, ← hiN] at la
            rw [← hy, ← hjN] at lb
            have hd : decide (x < y) = false := by rw [hx, hy]; exact hlv
            have hd2 : ¬ x < y := of_decide_eq_false hd
            clear hx hy hiN hjN
            go_wp2_with fail
            go_quiet (first | (go_at_call 130; refine Calls.quiet_of_same (less64 _ _ _)))
            have S2 : Hid (SW encU w0 blk off dj (wr.drewN nq)) := Lib.hid (SJ.out.drewN nq)
            clear la lb SJ hd hd2
            generalize wr.drewN nq = w2 at S2 ⊢
            clear nq
            clear ei pi bi ri ej pj bj rj
            go_wp2_with fail
            go_roundw
            case rel => exact ⟨i + 1, dj, by go_num, by omega, by omega, hsj, S2, OUT.out (Or.inr hlv)⟩
            case measure => simp [intOf]; omega
        · have hjaz : decide ((j : Int) > (a : Int)) = false := decide_eq_false (by omega)
          have hjaz' : ¬ (a : Int) < (j : Int) := by omega
          go_wp2_with fail
          go_quiet (fail)
          have S2 : Hid (SW encU w0 blk off dj (wr.drewN nq)) := Lib.hid (SJ.out.drewN nq)
          clear SJ
          generalize wr.drewN nq = w2 at S2 ⊢
          go_wp2_with fail
          go_roundw
          case rel => exact ⟨i + 1, dj, by go_num, by omega, by omega, hsj, S2, OUT.out (Or.inl (by omega))⟩
          case measure => simp [intOf]; omega
    · have hltz : ¬ (i : Int) < (b : Int) := by omega
      go_wp2_with fail
      go_end0
      exact ⟨rfl, by unfold Sort.insertionSort; rw [← HO.out, insOuter_stop _ _ _ _ _ hlt]; exact S1.out⟩
set_option maxHeartbeats 4000000 in
set_option maxRecDepth 1000000 in
theorem reverse64 (n blk off cap a b : Nat) (d0 d : Array Int) (w0 w : World) (R : RowU w0 blk off d0) (hs0 : d0.size = n) (hs : d.size = n) (S : SW encU w0 blk off d w) (hsz : n < 4611686018427387904) (hab : a < b) (hb : b ≤ n) :
    Calls Tryz.prog 128 #[.slice (some ⟨blk, off, none⟩) n cap, .int .i64 a, .int .i64 b] w fun e w' => e = .returned (.tuple #[]) ∧ SW encU w0 blk off (Sort.reverseRange d a b) w' := by
  have mixed : Tryz.prog.follows .mixedOrders = true := by kernel_rfl
  have S0 := Lib.hid S
  clear S
  go_enter Tryz.func128, Tryz.ntmps128
  have hb1 : IntKind.i64.wrap ((b : Int) - 1) = (b : Int) - 1 := by rw [IntKind.wrap_i64]; omega
  go_wp2_with fail
  go_loopw [6, 7] (fun vi vj wr => ∃ (i j : Nat) (dk : Array Int), vi = .int .i64 i ∧ vj = .int .i64 j ∧ i ≤ j + 1 ∧ j < b ∧ dk.size = n ∧ Hid (SW encU w0 blk off dk wr) ∧ Hid (reverseLoop i j dk = reverseLoop a (b - 1) d)) (fun vi vj _ => (intOf vj + 1 - intOf vi).toNat)
  case atStart => exact ⟨a, b - 1, d, rfl, by congr 1; omega, by omega, by omega, hs, S0, rfl⟩
  case round =>
    clear S0
    obtain ⟨i, j, dk, rfl, rfl, hij, hjb, hsk, S1, HO⟩ := hrel
    by_cases hlt : i < j
    · have hltz : (i : Int) < (j : Int) := by omega
      obtain ⟨iN, hiN⟩ : ∃ zz, zz = i := ⟨_, rfl⟩
      obtain ⟨jN, hjN⟩ : ∃ zz, zz = j := ⟨_, rfl⟩
      have ei : ((i : Int) : Int).toNat = iN := by omega
      have pi : (0 : Int) ≤ ((i : Int) : Int) := by omega
      have bi : ((i : Int) : Int) < (n : Int) := by omega
      have ri : IntKind.i64.wrap ((i : Int) : Int) = ((i : Int) : Int) := by rw [IntKind.wrap_i64]; omega
      have ej : ((j : Int) : Int).toNat = jN := by omega
      have pj : (0 : Int) ≤ ((j : Int) : Int) := by omega
      have bj : ((j : Int) : Int) < (n : Int) := by omega
      have rj : IntKind.i64.wrap ((j : Int) : Int) = ((j : Int) : Int) := by rw [IntKind.wrap_i64]; omega
      obtain ⟨x, hx⟩ : ∃ zz, zz = dk[i]! := ⟨_, rfl⟩
      obtain ⟨y, hy⟩ : ∃ zz, zz = dk[j]! := ⟨_, rfl⟩
      have S2 : Hid (SW encU w0 blk off (swp dk (i) (j)) ((wr.setCell ⟨blk, off + iN, none⟩ (.int .u64 y)).setCell ⟨blk, off + jN, none⟩ (.int .u64 x)).drew) := Lib.hid (by rw [hiN, hjN, hx, hy]; exact swsw S1.out R (i) (j) (by omega) (by omega))
      have ca := swc S1.out R (by omega) (i) (by omega)
      have cb := swc S1.out R (by omega) (j) (by omega)
      have fa := swf S1.out R (by omega) (i) (by omega)
      have fb := swf S1.out R (by omega) (j) (by omega)
      obtain ⟨u, cc⟩ := swc2 S1.out R (by omega) (i) (j) (by omega) (by omega) (.int .u64 y)
      rw [← hjN, ← hiN] at cc
      rw [← hx, ← hiN] at ca
      rw [← hy, ← hjN] at cb
      rw [← hiN] at fa
      rw [← hjN] at fb
      clear S1 hx hy hiN hjN
      go_wp2_with fail
      go_big_region_o
      clear ca cb cc fa fb
      generalize ((wr.setCell ⟨blk, off + iN, none⟩ (.int .u64 y)).setCell ⟨blk, off + jN, none⟩ (.int .u64 x)).drew = w2 at S2 ⊢
      clear ei pi bi ri ej pj bj rj
      go_wp2_with fail
      go_roundw
      case rel => exact ⟨i + 1, j - 1, swp dk i j, by go_num, by first | go_num | (congr 1; omega), by omega, by omega, by rw [size_swp]; exact hsk, S2, Lib.hid (by rw [← HO.out]; conv => rhs; rw [reverseLoop]; rw [if_pos hlt])⟩
      case measure => simp [intOf]; omega
    · have hltz : ¬ (i : Int) < (j : Int) := by omega
      go_wp2_with fail
      go_end0
      exact ⟨rfl, by unfold Sort.reverseRange; rw [← HO.out, reverseLoop, if_neg hlt]; exact S1.out⟩
set_option maxHeartbeats 4000000 in
set_option maxRecDepth 1000000 in
theorem sift64 (n blk off cap lo hi first : Nat) (d0 d : Array Int) (w0 w : World) (R : RowU w0 blk off d0) (hs0 : d0.size = n) (hs : d.size = n) (S : SW encU w0 blk off d w) (hsz : n < 4611686018427387904) (hlo : lo ≤ hi) (hb : first + hi ≤ n) :
    Calls Tryz.prog 165 #[.slice (some ⟨blk, off, none⟩) n cap, .int .i64 lo, .int .i64 hi, .int .i64 first] w fun e w' => e = .returned (.tuple #[]) ∧ SW encU w0 blk off (Sort.siftDown ltInt hi first lo d) w' := by
  have mixed : Tryz.prog.follows .mixedOrders = true := by kernel_rfl
  have S0 := Lib.hid S
  clear S
  go_enter Tryz.func165, Tryz.ntmps165
  go_wp2_with fail
  go_loopw [8] (fun vi wr => ∃ (root : Nat) (dk : Array Int), vi = .int .i64 root ∧ root ≤ hi ∧ dk.size = n ∧ Hid (SW encU w0 blk off dk wr) ∧ Hid (siftDown ltInt hi first root dk = siftDown ltInt hi first lo d)) (fun vi _ => hi - (intOf vi).toNat)
  case atStart => exact ⟨lo, d, rfl, hlo, hs, S0, rfl⟩
  case round =>
    clear S0
    obtain ⟨root, dk, rfl, hr, hsk, S1, HO⟩ := hrel
    have rm : IntKind.i64.wrap (2 * (root : Int)) = 2 * (root : Int) := by rw [IntKind.wrap_i64]; omega
    have rm1 : IntKind.i64.wrap (2 * (root : Int) + 1) = 2 * (root : Int) + 1 := by rw [IntKind.wrap_i64]; omega
    by_cases h0 : hi ≤ 2 * root + 1
    · have h0z : (hi : Int) ≤ 2 * (root : Int) + 1 := by omega
      go_wp2_with fail
      go_end0
      exact ⟨rfl, by rw [← HO.out, sd_end ltInt dk h0]; exact S1.out⟩
    · have h0z : ¬ ((hi : Int) ≤ 2 * (root : Int) + 1) := by omega
      have rch : IntKind.i64.wrap (2 * (root : Int) + 1 + 1) = 2 * (root : Int) + 1 + 1 := by rw [IntKind.wrap_i64]; omega
      have LEFT : Hid ((2 * root + 2 < hi → ltInt dk[first + (2 * root + 1)]! dk[first + (2 * root + 2)]! = false) → True) := Lib.hid (fun _ => trivial)
      clear LEFT
      by_cases h1 : 2 * root + 2 < hi
      · have h1z : 2 * (root : Int) + 1 + 1 < (hi : Int) := by omega
        cases hL : ltInt dk[first + (2 * root + 1)]! dk[first + (2 * root + 2)]! with
        | true =>
          obtain ⟨iN, hiN⟩ : ∃ zz, zz = first + (2 * root + 1) := ⟨_, rfl⟩
          obtain ⟨jN, hjN⟩ : ∃ zz, zz = first + (2 * root + 2) := ⟨_, rfl⟩
          have ei : ((first : Int) + (2 * (root : Int) + 1) : Int).toNat = iN := by omega
          have pi : (0 : Int) ≤ ((first : Int) + (2 * (root : Int) + 1) : Int) := by omega
          have bi : ((first : Int) + (2 * (root : Int) + 1) : Int) < (n : Int) := by omega
          have ri : IntKind.i64.wrap ((first : Int) + (2 * (root : Int) + 1) : Int) = ((first : Int) + (2 * (root : Int) + 1) : Int) := by rw [IntKind.wrap_i64]; omega
          have ej : ((first : Int) + (2 * (root : Int) + 1) + 1 : Int).toNat = jN := by omega
          have pj : (0 : Int) ≤ ((first : Int) + (2 * (root : Int) + 1) + 1 : Int) := by omega
          have bj : ((first : Int) + (2 * (root : Int) + 1) + 1 : Int) < (n : Int) := by omega
          have rj : IntKind.i64.wrap ((first : Int) + (2 * (root : Int) + 1) + 1 : Int) = ((first : Int) + (2 * (root : Int) + 1) + 1 : Int) := by rw [IntKind.wrap_i64]; omega
          obtain ⟨x, hx⟩ : ∃ zz, zz = dk[first + (2 * root + 1)]! := ⟨_, rfl⟩
          obtain ⟨y, hy⟩ : ∃ zz, zz = dk[first + (2 * root + 2)]! := ⟨_, rfl⟩
          have la := swc S1.out R (by omega) (first + (2 * root + 1)) (by omega)
          have lb := swc S1.out R (by omega) (first + (2 * root + 2)) (by omega)
          rw [← hx, ← hiN] at la
          rw [← hy, ← hjN] at lb
          have hd : decide (x < y) = true := by rw [hx, hy]; exact hL
          have hd2 : x < y := of_decide_eq_true hd
          clear hx hy hiN hjN
          go_wp2_with fail
          go_quiet (first | (go_at_call 130; refine Calls.quiet_of_same (less64 _ _ _)))
          have S2 : Hid (SW encU w0 blk off dk (wr.drewN nq)) := Lib.hid (S1.out.drewN nq)
          clear la lb S1 hd hd2
          generalize wr.drewN nq = w2 at S2 ⊢
          clear nq
          clear ei pi bi ri ej pj bj rj
          cases hG : ltInt dk[first + root]! dk[first + (2 * root + 2)]! with
          | true =>
            obtain ⟨iN, hiN⟩ : ∃ zz, zz = first + root := ⟨_, rfl⟩
            obtain ⟨jN, hjN⟩ : ∃ zz, zz = first + (2 * root + 2) := ⟨_, rfl⟩
            have ei : ((first : Int) + (root : Int) : Int).toNat = iN := by omega
            have pi : (0 : Int) ≤ ((first : Int) + (root : Int) : Int) := by omega
            have bi : ((first : Int) + (root : Int) : Int) < (n : Int) := by omega
            have ri : IntKind.i64.wrap ((first : Int) + (root : Int) : Int) = ((first : Int) + (root : Int) : Int) := by rw [IntKind.wrap_i64]; omega
            have ej : ((first : Int) + (2 * (root : Int) + 1 + 1) : Int).toNat = jN := by omega
            have pj : (0 : Int) ≤ ((first : Int) + (2 * (root : Int) + 1 + 1) : Int) := by omega
            have bj : ((first : Int) + (2 * (root : Int) + 1 + 1) : Int) < (n : Int) := by omega
            have rj : IntKind.i64.wrap ((first : Int) + (2 * (root : Int) + 1 + 1) : Int) = ((first : Int) + (2 * (root : Int) + 1 + 1) : Int) := by rw [IntKind.wrap_i64]; omega
            obtain ⟨x, hx⟩ : ∃ zz, zz = dk[first + root]! := ⟨_, rfl⟩
            obtain ⟨y, hy⟩ : ∃ zz, zz = dk[first + (2 * root + 2)]! := ⟨_, rfl⟩
            have la := swc S2.out R (by omega) (first + root) (by omega)
            have lb := swc S2.out R (by omega) (first + (2 * root + 2)) (by omega)
            rw [← hx, ← hiN] at la
            rw [← hy, ← hjN] at lb
            have hd : decide (x < y) = true := by rw [hx, hy]; exact hG
            have hd2 : x < y := of_decide_eq_true hd
            clear hx hy hiN hjN
            go_wp2_with fail
            go_quiet (first | (go_at_call 130; refine Calls.quiet_of_same (less64 _ _ _)))
            have SA : Hid (SW encU w0 blk off dk (w2.drewN nq)) := Lib.hid (S2.out.drewN nq)
            clear la lb S2 hd hd2
            generalize w2.drewN nq = wa at SA ⊢
            clear nq
            clear ei pi bi ri ej pj bj rj
            obtain ⟨iN, hiN⟩ : ∃ zz, zz = first + root := ⟨_, rfl⟩
            obtain ⟨jN, hjN⟩ : ∃ zz, zz = first + (2 * root + 2) := ⟨_, rfl⟩
            have ei : ((first : Int) + (root : Int) : Int).toNat = iN := by omega
            have pi : (0 : Int) ≤ ((first : Int) + (root : Int) : Int) := by omega
            have bi : ((first : Int) + (root : Int) : Int) < (n : Int) := by omega
            have ri : IntKind.i64.wrap ((first : Int) + (root : Int) : Int) = ((first : Int) + (root : Int) : Int) := by rw [IntKind.wrap_i64]; omega
            have ej : ((first : Int) + (2 * (root : Int) + 1 + 1) : Int).toNat = jN := by omega
            have pj : (0 : Int) ≤ ((first : Int) + (2 * (root : Int) + 1 + 1) : Int) := by omega
            have bj : ((first : Int) + (2 * (root : Int) + 1 + 1) : Int) < (n : Int) := by omega
            have rj : IntKind.i64.wrap ((first : Int) + (2 * (root : Int) + 1 + 1) : Int) = ((first : Int) + (2 * (root : Int) + 1 + 1) : Int) := by rw [IntKind.wrap_i64]; omega
            obtain ⟨x, hx⟩ : ∃ zz, zz = dk[first + root]! := ⟨_, rfl⟩
            obtain ⟨y, hy⟩ : ∃ zz, zz = dk[first + (2 * root + 2)]! := ⟨_, rfl⟩
            have SB : Hid (SW encU w0 blk off (swp dk (first + root) (first + (2 * root + 2))) ((wa.setCell ⟨blk, off + iN, none⟩ (.int .u64 y)).setCell ⟨blk, off + jN, none⟩ (.int .u64 x)).drew) := Lib.hid (by rw [hiN, hjN, hx, hy]; exact swsw SA.out R (first + root) (first + (2 * root + 2)) (by omega) (by omega))
            have ca := swc SA.out R (by omega) (first + root) (by omega)
            have cb := swc SA.out R (by omega) (first + (2 * root + 2)) (by omega)
            have fa := swf SA.out R (by omega) (first + root) (by omega)
            have fb := swf SA.out R (by omega) (first + (2 * root + 2)) (by omega)
            obtain ⟨u, cc⟩ := swc2 SA.out R (by omega) (first + root) (first + (2 * root + 2)) (by omega) (by omega) (.int .u64 y)
            rw [← hjN, ← hiN] at cc
            rw [← hx, ← hiN] at ca
            rw [← hy, ← hjN] at cb
            rw [← hiN] at fa
            rw [← hjN] at fb
            clear SA hx hy hiN hjN
            go_wp2_with fail
            go_big_region_o
            clear ca cb cc fa fb
            generalize ((wa.setCell ⟨blk, off + iN, none⟩ (.int .u64 y)).setCell ⟨blk, off + jN, none⟩ (.int .u64 x)).drew = wb at SB ⊢
            clear ei pi bi ri ej pj bj rj
            go_wp2_with fail
            go_roundw
            case rel => exact ⟨2 * root + 2, swp dk (first + root) (first + (2 * root + 2)), by first | go_num | (congr 1; omega), by omega, by rw [size_swp]; exact hsk, SB, Lib.hid (by rw [← HO.out, sd_right_go ltInt dk h1 hL hG])⟩
            case measure => simp [intOf]; omega
          | false =>
            obtain ⟨iN, hiN⟩ : ∃ zz, zz = first + root := ⟨_, rfl⟩
            obtain ⟨jN, hjN⟩ : ∃ zz, zz = first + (2 * root + 2) := ⟨_, rfl⟩
            have ei : ((first : Int) + (root : Int) : Int).toNat = iN := by omega
            have pi : (0 : Int) ≤ ((first : Int) + (root : Int) : Int) := by omega
            have bi : ((first : Int) + (root : Int) : Int) < (n : Int) := by omega
            have ri : IntKind.i64.wrap ((first : Int) + (root : Int) : Int) = ((first : Int) + (root : Int) : Int) := by rw [IntKind.wrap_i64]; omega
            have ej : ((first : Int) + (2 * (root : Int) + 1 + 1) : Int).toNat = jN := by omega
            have pj : (0 : Int) ≤ ((first : Int) + (2 * (root : Int) + 1 + 1) : Int) := by omega
            have bj : ((first : Int) + (2 * (root : Int) + 1 + 1) : Int) < (n : Int) := by omega
            have rj : IntKind.i64.wrap ((first : Int) + (2 * (root : Int) + 1 + 1) : Int) = ((first : Int) + (2 * (root : Int) + 1 + 1) : Int) := by rw [IntKind.wrap_i64]; omega
            obtain ⟨x, hx⟩ : ∃ zz, zz = dk[first + root]! := ⟨_, rfl⟩
            obtain ⟨y, hy⟩ : ∃ zz, zz = dk[first + (2 * root + 2)]! := ⟨_, rfl⟩
            have la := swc S2.out R (by omega) (first + root) (by omega)
            have lb := swc S2.out R (by omega) (first + (2 * root + 2)) (by omega)
            rw [← hx, ← hiN] at la
            rw [← hy, ← hjN] at lb
            have hd : decide (x < y) = false := by rw [hx, hy]; exact hG
            have hd2 : ¬ x < y := of_decide_eq_false hd
            clear hx hy hiN hjN
            go_wp2_with fail
            go_quiet (first | (go_at_call 130; refine Calls.quiet_of_same (less64 _ _ _)))
            have SA : Hid (SW encU w0 blk off dk (w2.drewN nq)) := Lib.hid (S2.out.drewN nq)
            clear la lb S2 hd hd2
            generalize w2.drewN nq = wa at SA ⊢
            clear nq
            clear ei pi bi ri ej pj bj rj
            go_wp2_with fail
            (try simp only [Exit.inBlock, Exit.then])
            refine bodyPost_ret (results_none rfl _ _ _) rfl ?_
            exact ⟨rfl, by rw [← HO.out, sd_right_stop ltInt dk h1 hL hG]; exact SA.out⟩
        | false =>
          obtain ⟨iN, hiN⟩ : ∃ zz, zz = first + (2 * root + 1) := ⟨_, rfl⟩
          obtain ⟨jN, hjN⟩ : ∃ zz, zz = first + (2 * root + 2) := ⟨_, rfl⟩
          have ei : ((first : Int) + (2 * (root : Int) + 1) : Int).toNat = iN := by omega
          have pi : (0 : Int) ≤ ((first : Int) + (2 * (root : Int) + 1) : Int) := by omega
          have bi : ((first : Int) + (2 * (root : Int) + 1) : Int) < (n : Int) := by omega
          have ri : IntKind.i64.wrap ((first : Int) + (2 * (root : Int) + 1) : Int) = ((first : Int) + (2 * (root : Int) + 1) : Int) := by rw [IntKind.wrap_i64]; omega
          have ej : ((first : Int) + (2 * (root : Int) + 1) + 1 : Int).toNat = jN := by omega
          have pj : (0 : Int) ≤ ((first : Int) + (2 * (root : Int) + 1) + 1 : Int) := by omega
          have bj : ((first : Int) + (2 * (root : Int) + 1) + 1 : Int) < (n : Int) := by omega
          have rj : IntKind.i64.wrap ((first : Int) + (2 * (root : Int) + 1) + 1 : Int) = ((first : Int) + (2 * (root : Int) + 1) + 1 : Int) := by rw [IntKind.wrap_i64]; omega
          obtain ⟨x, hx⟩ : ∃ zz, zz = dk[first + (2 * root + 1)]! := ⟨_, rfl⟩
          obtain ⟨y, hy⟩ : ∃ zz, zz = dk[first + (2 * root + 2)]! := ⟨_, rfl⟩
          have la := swc S1.out R (by omega) (first + (2 * root + 1)) (by omega)
          have lb := swc S1.out R (by omega) (first + (2 * root + 2)) (by omega)
          rw [← hx, ← hiN] at la
          rw [← hy, ← hjN] at lb
          have hd : decide (x < y) = false := by rw [hx, hy]; exact hL
          have hd2 : ¬ x < y := of_decide_eq_false hd
          clear hx hy hiN hjN
          go_wp2_with fail
          go_quiet (first | (go_at_call 130; refine Calls.quiet_of_same (less64 _ _ _)))
          have S2 : Hid (SW encU w0 blk off dk (wr.drewN nq)) := Lib.hid (S1.out.drewN nq)
          clear la lb S1 hd hd2
          generalize wr.drewN nq = w2 at S2 ⊢
          clear nq
          clear ei pi bi ri ej pj bj rj
          cases hG : ltInt dk[first + root]! dk[first + (2 * root + 1)]! with
          | true =>
            obtain ⟨iN, hiN⟩ : ∃ zz, zz = first + root := ⟨_, rfl⟩
            obtain ⟨jN, hjN⟩ : ∃ zz, zz = first + (2 * root + 1) := ⟨_, rfl⟩
            have ei : ((first : Int) + (root : Int) : Int).toNat = iN := by omega
            have pi : (0 : Int) ≤ ((first : Int) + (root : Int) : Int) := by omega
            have bi : ((first : Int) + (root : Int) : Int) < (n : Int) := by omega
            have ri : IntKind.i64.wrap ((first : Int) + (root : Int) : Int) = ((first : Int) + (root : Int) : Int) := by rw [IntKind.wrap_i64]; omega
            have ej : ((first : Int) + (2 * (root : Int) + 1) : Int).toNat = jN := by omega
            have pj : (0 : Int) ≤ ((first : Int) + (2 * (root : Int) + 1) : Int) := by omega
            have bj : ((first : Int) + (2 * (root : Int) + 1) : Int) < (n : Int) := by omega
            have rj : IntKind.i64.wrap ((first : Int) + (2 * (root : Int) + 1) : Int) = ((first : Int) + (2 * (root : Int) + 1) : Int) := by rw [IntKind.wrap_i64]; omega
            obtain ⟨x, hx⟩ : ∃ zz, zz = dk[first + root]! := ⟨_, rfl⟩
            obtain ⟨y, hy⟩ : ∃ zz, zz = dk[first + (2 * root + 1)]! := ⟨_, rfl⟩
            have la := swc S2.out R (by omega) (first + root) (by omega)
            have lb := swc S2.out R (by omega) (first + (2 * root + 1)) (by omega)
            rw [← hx, ← hiN] at la
            rw [← hy, ← hjN] at lb
            have hd : decide (x < y) = true := by rw [hx, hy]; exact hG
            have hd2 : x < y := of_decide_eq_true hd
            clear hx hy hiN hjN
            go_wp2_with fail
            go_quiet (first | (go_at_call 130; refine Calls.quiet_of_same (less64 _ _ _)))
            have SA : Hid (SW encU w0 blk off dk (w2.drewN nq)) := Lib.hid (S2.out.drewN nq)
            clear la lb S2 hd hd2
            generalize w2.drewN nq = wa at SA ⊢
            clear nq
            clear ei pi bi ri ej pj bj rj
            obtain ⟨iN, hiN⟩ : ∃ zz, zz = first + root := ⟨_, rfl⟩
            obtain ⟨jN, hjN⟩ : ∃ zz, zz = first + (2 * root + 1) := ⟨_, rfl⟩
            have ei : ((first : Int) + (root : Int) : Int).toNat = iN := by omega
            have pi : (0 : Int) ≤ ((first : Int) + (root : Int) : Int) := by omega
            have bi : ((first : Int) + (root : Int) : Int) < (n : Int) := by omega
            have ri : IntKind.i64.wrap ((first : Int) + (root : Int) : Int) = ((first : Int) + (root : Int) : Int) := by rw [IntKind.wrap_i64]; omega
            have ej : ((first : Int) + (2 * (root : Int) + 1) : Int).toNat = jN := by omega
            have pj : (0 : Int) ≤ ((first : Int) + (2 * (root : Int) + 1) : Int) := by omega
            have bj : ((first : Int) + (2 * (root : Int) + 1) : Int) < (n : Int) := by omega
            have rj : IntKind.i64.wrap ((first : Int) + (2 * (root : Int) + 1) : Int) = ((first : Int) + (2 * (root : Int) + 1) : Int) := by rw [IntKind.wrap_i64]; omega
            obtain ⟨x, hx⟩ : ∃ zz, zz = dk[first + root]! := ⟨_, rfl⟩
            obtain ⟨y, hy⟩ : ∃ zz, zz = dk[first + (2 * root + 1)]! := ⟨_, rfl⟩
            have SB : Hid (SW encU w0 blk off (swp dk (first + root) (first + (2 * root + 1))) ((wa.setCell ⟨blk, off + iN, none⟩ (.int .u64 y)).setCell ⟨blk, off + jN, none⟩ (.int .u64 x)).drew) := Lib.hid (by rw [hiN, hjN, hx, hy]; exact swsw SA.out R (first + root) (first + (2 * root + 1)) (by omega) (by omega))
            have ca := swc SA.out R (by omega) (first + root) (by omega)
            have cb := swc SA.out R (by omega) (first + (2 * root + 1)) (by omega)
            have fa := swf SA.out R (by omega) (first + root) (by omega)
            have fb := swf SA.out R (by omega) (first + (2 * root + 1)) (by omega)
            obtain ⟨u, cc⟩ := swc2 SA.out R (by omega) (first + root) (first + (2 * root + 1)) (by omega) (by omega) (.int .u64 y)
            rw [← hjN, ← hiN] at cc
            rw [← hx, ← hiN] at ca
            rw [← hy, ← hjN] at cb
            rw [← hiN] at fa
            rw [← hjN] at fb
            clear SA hx hy hiN hjN
            go_wp2_with fail
            go_big_region_o
            clear ca cb cc fa fb
            generalize ((wa.setCell ⟨blk, off + iN, none⟩ (.int .u64 y)).setCell ⟨blk, off + jN, none⟩ (.int .u64 x)).drew = wb at SB ⊢
            clear ei pi bi ri ej pj bj rj
            go_wp2_with fail
            go_roundw
            case rel => exact ⟨2 * root + 1, swp dk (first + root) (first + (2 * root + 1)), by first | go_num | (congr 1; omega), by omega, by rw [size_swp]; exact hsk, SB, Lib.hid (by rw [← HO.out, sd_left_go ltInt dk (by omega) (fun _ => hL) hG])⟩
            case measure => simp [intOf]; omega
          | false =>
            obtain ⟨iN, hiN⟩ : ∃ zz, zz = first + root := ⟨_, rfl⟩
            obtain ⟨jN, hjN⟩ : ∃ zz, zz = first + (2 * root + 1) := ⟨_, rfl⟩
            have ei : ((first : Int) + (root : Int) : Int).toNat = iN := by omega
            have pi : (0 : Int) ≤ ((first : Int) + (root : Int) : Int) := by omega
            have bi : ((first : Int) + (root : Int) : Int) < (n : Int) := by omega
            have ri : IntKind.i64.wrap ((first : Int) + (root : Int) : Int) = ((first : Int) + (root : Int) : Int) := by rw [IntKind.wrap_i64]; omega
            have ej : ((first : Int) + (2 * (root : Int) + 1) : Int).toNat = jN := by omega
            have pj : (0 : Int) ≤ ((first : Int) + (2 * (root : Int) + 1) : Int) := by omega
            have bj : ((first : Int) + (2 * (root : Int) + 1) : Int) < (n : Int) := by omega
            have rj : IntKind.i64.wrap ((first : Int) + (2 * (root : Int) + 1) : Int) = ((first : Int) + (2 * (root : Int) + 1) : Int) := by rw [IntKind.wrap_i64]; omega
            obtain ⟨x, hx⟩ : ∃ zz, zz = dk[first + root]! := ⟨_, rfl⟩
            obtain ⟨y, hy⟩ : ∃ zz, zz = dk[first + (2 * root + 1)]! := ⟨_, rfl⟩
            have la := swc S2.out R (by omega) (first + root) (by omega)
            have lb := swc S2.out R (by omega) (first + (2 * root + 1)) (by omega)
            rw [← hx, ← hiN] at la
            rw [← hy, ← hjN] at lb
            have hd : decide (x < y) = false := by rw [hx, hy]; exact hG
            have hd2 : ¬ x < y := of_decide_eq_false hd
            clear hx hy hiN hjN
            go_wp2_with fail
            go_quiet (first | (go_at_call 130; refine Calls.quiet_of_same (less64 _ _ _)))
            have SA : Hid (SW encU w0 blk off dk (w2.drewN nq)) := Lib.hid (S2.out.drewN nq)
            clear la lb S2 hd hd2
            generalize w2.drewN nq = wa at SA ⊢
            clear nq
            clear ei pi bi ri ej pj bj rj
            go_wp2_with fail
            (try simp only [Exit.inBlock, Exit.then])
            refine bodyPost_ret (results_none rfl _ _ _) rfl ?_
            exact ⟨rfl, by rw [← HO.out, sd_left_stop ltInt dk (by omega) (fun _ => hL) hG]; exact SA.out⟩
      · have h1z : ¬ (2 * (root : Int) + 1 + 1 < (hi : Int)) := by omega
        have h1d : decide (2 * (root : Int) + 1 + 1 < (hi : Int)) = false := decide_eq_false h1z
        go_wp2_with fail
        go_quiet (fail)
        have S2 : Hid (SW encU w0 blk off dk (wr.drewN nq)) := Lib.hid (S1.out.drewN nq)
        clear S1
        generalize wr.drewN nq = w2 at S2 ⊢
        clear nq
        cases hG : ltInt dk[first + root]! dk[first + (2 * root + 1)]! with
        | true =>
          obtain ⟨iN, hiN⟩ : ∃ zz, zz = first + root := ⟨_, rfl⟩
          obtain ⟨jN, hjN⟩ : ∃ zz, zz = first + (2 * root + 1) := ⟨_, rfl⟩
          have ei : ((first : Int) + (root : Int) : Int).toNat = iN := by omega
          have pi : (0 : Int) ≤ ((first : Int) + (root : Int) : Int) := by omega
          have bi : ((first : Int) + (root : Int) : Int) < (n : Int) := by omega
          have ri : IntKind.i64.wrap ((first : Int) + (root : Int) : Int) = ((first : Int) + (root : Int) : Int) := by rw [IntKind.wrap_i64]; omega
          have ej : ((first : Int) + (2 * (root : Int) + 1) : Int).toNat = jN := by omega
          have pj : (0 : Int) ≤ ((first : Int) + (2 * (root : Int) + 1) : Int) := by omega
          have bj : ((first : Int) + (2 * (root : Int) + 1) : Int) < (n : Int) := by omega
          have rj : IntKind.i64.wrap ((first : Int) + (2 * (root : Int) + 1) : Int) = ((first : Int) + (2 * (root : Int) + 1) : Int) := by rw [IntKind.wrap_i64]; omega
          obtain ⟨x, hx⟩ : ∃ zz, zz = dk[first + root]! := ⟨_, rfl⟩
          obtain ⟨y, hy⟩ : ∃ zz, zz = dk[first + (2 * root + 1)]! := ⟨_, rfl⟩
          have la := swc S2.out R (by omega) (first + root) (by omega)
          have lb := swc S2.out R (by omega) (first + (2 * root + 1)) (by omega)
          rw [← hx, ← hiN] at la
          rw [← hy, ← hjN] at lb
          have hd : decide (x < y) = true := by rw [hx, hy]; exact hG
          have hd2 : x < y := of_decide_eq_true hd
          clear hx hy hiN hjN
          go_wp2_with fail
          go_quiet (first | (go_at_call 130; refine Calls.quiet_of_same (less64 _ _ _)))
          have SA : Hid (SW encU w0 blk off dk (w2.drewN nq)) := Lib.hid (S2.out.drewN nq)
          clear la lb S2 hd hd2
          generalize w2.drewN nq = wa at SA ⊢
          clear nq
          clear ei pi bi ri ej pj bj rj
          obtain ⟨iN, hiN⟩ : ∃ zz, zz = first + root := ⟨_, rfl⟩
          obtain ⟨jN, hjN⟩ : ∃ zz, zz = first + (2 * root + 1) := ⟨_, rfl⟩
          have ei : ((first : Int) + (root : Int) : Int).toNat = iN := by omega
          have pi : (0 : Int) ≤ ((first : Int) + (root : Int) : Int) := by omega
          have bi : ((first : Int) + (root : Int) : Int) < (n : Int) := by omega
          have ri : IntKind.i64.wrap ((first : Int) + (root : Int) : Int) = ((first : Int) + (root : Int) : Int) := by rw [IntKind.wrap_i64]; omega
          have ej : ((first : Int) + (2 * (root : Int) + 1) : Int).toNat = jN := by omega
          have pj : (0 : Int) ≤ ((first : Int) + (2 * (root : Int) + 1) : Int) := by omega
          have bj : ((first : Int) + (2 * (root : Int) + 1) : Int) < (n : Int) := by omega
          have rj : IntKind.i64.wrap ((first : Int) + (2 * (root : Int) + 1) : Int) = ((first : Int) + (2 * (root : Int) + 1) : Int) := by rw [IntKind.wrap_i64]; omega
          obtain ⟨x, hx⟩ : ∃ zz, zz = dk[first + root]! := ⟨_, rfl⟩
          obtain ⟨y, hy⟩ : ∃ zz, zz = dk[first + (2 * root + 1)]! := ⟨_, rfl⟩
          have SB : Hid (SW encU w0 blk off (swp dk (first + root) (first + (2 * root + 1))) ((wa.setCell ⟨blk, off + iN, none⟩ (.int .u64 y)).setCell ⟨blk, off + jN, none⟩ (.int .u64 x)).drew) := Lib.hid (by rw [hiN, hjN, hx, hy]; exact swsw SA.out R (first + root) (first + (2 * root + 1)) (by omega) (by omega))
          have ca := swc SA.out R (by omega) (first + root) (by omega)
          have cb := swc SA.out R (by omega) (first + (2 * root + 1)) (by omega)
          have fa := swf SA.out R (by omega) (first + root) (by omega)
          have fb := swf SA.out R (by omega) (first + (2 * root + 1)) (by omega)
          obtain ⟨u, cc⟩ := swc2 SA.out R (by omega) (first + root) (first + (2 * root + 1)) (by omega) (by omega) (.int .u64 y)
          rw [← hjN, ← hiN] at cc
          rw [← hx, ← hiN] at ca
          rw [← hy, ← hjN] at cb
          rw [← hiN] at fa
          rw [← hjN] at fb
          clear SA hx hy hiN hjN
          go_wp2_with fail
          go_big_region_o
          clear ca cb cc fa fb
          generalize ((wa.setCell ⟨blk, off + iN, none⟩ (.int .u64 y)).setCell ⟨blk, off + jN, none⟩ (.int .u64 x)).drew = wb at SB ⊢
          clear ei pi bi ri ej pj bj rj
          go_wp2_with fail
          go_roundw
          case rel => exact ⟨2 * root + 1, swp dk (first + root) (first + (2 * root + 1)), by first | go_num | (congr 1; omega), by omega, by rw [size_swp]; exact hsk, SB, Lib.hid (by rw [← HO.out, sd_left_go ltInt dk (by omega) (fun h => absurd h h1) hG])⟩
          case measure => simp [intOf]; omega
        | false =>
          obtain ⟨iN, hiN⟩ : ∃ zz, zz = first + root := ⟨_, rfl⟩
          obtain ⟨jN, hjN⟩ : ∃ zz, zz = first + (2 * root + 1) := ⟨_, rfl⟩
          have ei : ((first : Int) + (root : Int) : Int).toNat = iN := by omega
          have pi : (0 : Int) ≤ ((first : Int) + (root : Int) : Int) := by omega
          have bi : ((first : Int) + (root : Int) : Int) < (n : Int) := by omega
          have ri : IntKind.i64.wrap ((first : Int) + (root : Int) : Int) = ((first : Int) + (root : Int) : Int) := by rw [IntKind.wrap_i64]; omega
          have ej : ((first : Int) + (2 * (root : Int) + 1) : Int).toNat = jN := by omega
          have pj : (0 : Int) ≤ ((first : Int) + (2 * (root : Int) + 1) : Int) := by omega
          have bj : ((first : Int) + (2 * (root : Int) + 1) : Int) < (n : Int) := by omega
          have rj : IntKind.i64.wrap ((first : Int) + (2 * (root : Int) + 1) : Int) = ((first : Int) + (2 * (root : Int) + 1) : Int) := by rw [IntKind.wrap_i64]; omega
          obtain ⟨x, hx⟩ : ∃ zz, zz = dk[first + root]! := ⟨_, rfl⟩
          obtain ⟨y, hy⟩ : ∃ zz, zz = dk[first + (2 * root + 1)]! := ⟨_, rfl⟩
          have la := swc S2.out R (by omega) (first + root) (by omega)
          have lb := swc S2.out R (by omega) (first + (2 * root + 1)) (by omega)
          rw [← hx, ← hiN] at la
          rw [← hy, ← hjN] at lb
          have hd : decide (x < y) = false := by rw [hx, hy]; exact hG
          have hd2 : ¬ x < y := of_decide_eq_false hd
          clear hx hy hiN hjN
          go_wp2_with fail
          go_quiet (first | (go_at_call 130; refine Calls.quiet_of_same (less64 _ _ _)))
          have SA : Hid (SW encU w0 blk off dk (w2.drewN nq)) := Lib.hid (S2.out.drewN nq)
          clear la lb S2 hd hd2
          generalize w2.drewN nq = wa at SA ⊢
          clear nq
          clear ei pi bi ri ej pj bj rj
          go_wp2_with fail
          (try simp only [Exit.inBlock, Exit.then])
          refine bodyPost_ret (results_none rfl _ _ _) rfl ?_
          exact ⟨rfl, by rw [← HO.out, sd_left_stop ltInt dk (by omega) (fun h => absurd h h1) hG]; exact SA.out⟩
theorem size_hb64 (hi F : Nat) : ∀ (k : Nat) (d : Array Int), (heapBuild ltInt hi F k d).size = d.size
  | 0, d => rfl
  | k + 1, d => by rw [heapBuild, size_hb64 hi F k, size_siftDown ltInt hi F _ _ _ (Nat.le_refl _)]
set_option maxHeartbeats 4000000 in
set_option maxRecDepth 1000000 in
theorem heap64 (n blk off cap a b : Nat) (d0 d : Array Int) (w0 w : World) (R : RowU w0 blk off d0) (hs0 : d0.size = n) (hs : d.size = n) (S : SW encU w0 blk off d w) (hsz : n < 4611686018427387904) (hab : a ≤ b) (hb : b ≤ n) :
    Calls Tryz.prog 125 #[.slice (some ⟨blk, off, none⟩) n cap, .int .i64 a, .int .i64 b] w fun e w' => e = .returned (.tuple #[]) ∧ SW encU w0 blk off (Sort.heapSort ltInt d a b) w' := by
  have mixed : Tryz.prog.follows .mixedOrders = true := by kernel_rfl
  have S0 := Lib.hid S
  clear S
  go_enter Tryz.func125, Tryz.ntmps125
  have hh := half_start hab
  have rl : IntKind.i64.wrap ((b : Int) - (a : Int)) = (b : Int) - (a : Int) := by rw [IntKind.wrap_i64]; omega
  have rl1 : IntKind.i64.wrap ((b : Int) - (a : Int) - 1) = (b : Int) - (a : Int) - 1 := by rw [IntKind.wrap_i64]; omega
  have rq : IntKind.i64.wrap ((((b - a - 1) / 2 + 1 : Nat) : Int) - 1) = (((b - a - 1) / 2 + 1 : Nat) : Int) - 1 := by rw [IntKind.wrap_i64]; omega
  have htw : ((2 : Int) == 0) = false := by decide
  obtain ⟨m0, hm0⟩ : ∃ m, m = (b - a - 1) / 2 + 1 := ⟨_, rfl⟩
  have hm1 : m0 ≤ b - a + 1 := by omega
  have HM0 := Lib.hid hm0
  rw [← hm0] at hh rq
  clear hm0
  go_wp2_with fail
  go_loopw [9] (fun vi wr => ∃ (k : Nat) (dk : Array Int), vi = .int .i64 ((k : Int) - 1) ∧ k ≤ m0 ∧ dk.size = n ∧ Hid (SW encU w0 blk off dk wr) ∧ Hid (heapBuild ltInt (b - a) a k dk = heapBuild ltInt (b - a) a m0 d)) (fun vi _ => (intOf vi + 1).toNat)
  case atStart => exact ⟨m0, d, by first | rfl | (congr 1; done) | (congr 1; omega) | rw [hh], Nat.le_refl _, hs, S0, rfl⟩
  case round =>
    clear S0
    obtain ⟨k, dk, rfl, hk, hsk, S1, HO⟩ := hrel
    by_cases hk0 : 0 < k
    · obtain ⟨q, hq⟩ : ∃ q, q + 1 = k := ⟨k - 1, by omega⟩
      subst hq
      have hqz : (((q + 1 : Nat) : Int) - 1) = (q : Int) := by omega
      rw [hqz]
      have hge : (0 : Int) ≤ (q : Int) := by omega
      have hcon := Lib.hid (sift64 n blk off cap q (b - a) a d0 dk w0 wr R hs0 hsk S1.out hsz (by omega) (by omega))
      rw [show ((b - a : Nat) : Int) = (b : Int) - (a : Int) by omega] at hcon
      go_wp2_with (go_at_call 165; refine hcon.out.mono ?_; rintro e w2 ⟨rfl, S2⟩)
      have S3 := Lib.hid S2
      clear S2 hcon S1
      go_wp2_with fail
      go_roundw
      case rel => exact ⟨q, siftDown ltInt (b - a) a q dk, by first | rfl | go_num | (congr 1; omega), by omega, by rw [size_siftDown ltInt (b - a) a _ _ _ (Nat.le_refl _)]; exact hsk, S3, Lib.hid (by rw [← HO.out, heapBuild])⟩
      case measure => first | (simp [intOf]; done) | (simp [intOf]; omega)
    · obtain rfl : k = 0 := by omega
      have hge : ¬ (0 : Int) ≤ ((0 : Nat) : Int) - 1 := by omega
      have HB : Hid (dk = heapBuild ltInt (b - a) a m0 d) := Lib.hid (by rw [← HO.out]; rfl)
      go_wp2_with fail
      go_loopw [10] (fun vi wz => ∃ (k : Nat) (dz : Array Int), vi = .int .i64 ((k : Int) - 1) ∧ k ≤ b - a ∧ dz.size = n ∧ Hid (SW encU w0 blk off dz wz) ∧ Hid (heapPop ltInt a k dz = heapPop ltInt a (b - a) dk)) (fun vi _ => (intOf vi + 1).toNat)
      case atStart => exact ⟨b - a, dk, by first | rfl | (congr 1; done) | (congr 1; omega), Nat.le_refl _, hsk, S1, rfl⟩
      case round =>
        clear S1
        obtain ⟨k, dz, rfl, hk2, hsz2, S1, HP⟩ := hrel
        by_cases hk0 : 0 < k
        · obtain ⟨q, hq⟩ : ∃ q, q + 1 = k := ⟨k - 1, by omega⟩
          subst hq
          have hqz : (((q + 1 : Nat) : Int) - 1) = (q : Int) := by omega
          rw [hqz]
          have hge : (0 : Int) ≤ (q : Int) := by omega
          obtain ⟨iN, hiN⟩ : ∃ zz, zz = a := ⟨_, rfl⟩
          obtain ⟨jN, hjN⟩ : ∃ zz, zz = a + q := ⟨_, rfl⟩
          have ei : ((a : Int) : Int).toNat = iN := by omega
          have pi : (0 : Int) ≤ ((a : Int) : Int) := by omega
          have bi : ((a : Int) : Int) < (n : Int) := by omega
          have ri : IntKind.i64.wrap ((a : Int) : Int) = ((a : Int) : Int) := by rw [IntKind.wrap_i64]; omega
          have ej : ((a : Int) + (q : Int) : Int).toNat = jN := by omega
          have pj : (0 : Int) ≤ ((a : Int) + (q : Int) : Int) := by omega
          have bj : ((a : Int) + (q : Int) : Int) < (n : Int) := by omega
          have rj : IntKind.i64.wrap ((a : Int) + (q : Int) : Int) = ((a : Int) + (q : Int) : Int) := by rw [IntKind.wrap_i64]; omega
          obtain ⟨x, hx⟩ : ∃ zz, zz = dz[a]! := ⟨_, rfl⟩
          obtain ⟨y, hy⟩ : ∃ zz, zz = dz[a + q]! := ⟨_, rfl⟩
          have S2 : Hid (SW encU w0 blk off (swp dz (a) (a + q)) ((wr.setCell ⟨blk, off + iN, none⟩ (.int .u64 y)).setCell ⟨blk, off + jN, none⟩ (.int .u64 x)).drew) := Lib.hid (by rw [hiN, hjN, hx, hy]; exact swsw S1.out R (a) (a + q) (by omega) (by omega))
          have ca := swc S1.out R (by omega) (a) (by omega)
          have cb := swc S1.out R (by omega) (a + q) (by omega)
          have fa := swf S1.out R (by omega) (a) (by omega)
          have fb := swf S1.out R (by omega) (a + q) (by omega)
          obtain ⟨u, cc⟩ := swc2 S1.out R (by omega) (a) (a + q) (by omega) (by omega) (.int .u64 y)
          rw [← hjN, ← hiN] at cc
          rw [← hx, ← hiN] at ca
          rw [← hy, ← hjN] at cb
          rw [← hiN] at fa
          rw [← hjN] at fb
          clear S1 hx hy hiN hjN
          go_wp2_with fail
          go_big_region_o
          clear ca cb cc fa fb
          generalize ((wr.setCell ⟨blk, off + iN, none⟩ (.int .u64 y)).setCell ⟨blk, off + jN, none⟩ (.int .u64 x)).drew = w2 at S2 ⊢
          clear ei pi bi ri ej pj bj rj
          have hsw : (swp dz a (a + q)).size = n := by rw [size_swp]; exact hsz2
          have hcon := Lib.hid (sift64 n blk off cap 0 q a d0 (swp dz a (a + q)) w0 w2 R hs0 hsw S2.out hsz (by omega) (by omega))
          go_wp2_with (go_at_call 165; refine hcon.out.mono ?_; rintro e w3 ⟨rfl, S3⟩)
          have S4 := Lib.hid S3
          clear S3 hcon S2
          go_wp2_with fail
          go_roundw
          case rel => exact ⟨q, siftDown ltInt q a 0 (swp dz a (a + q)), by first | rfl | go_num | (congr 1; omega), by omega, by rw [size_siftDown ltInt q a _ _ _ (Nat.le_refl _)]; exact hsw, S4, Lib.hid (by rw [← HP.out, heapPop])⟩
          case measure => first | (simp [intOf]; done) | (simp [intOf]; omega)
        · obtain rfl : k = 0 := by omega
          have hge : ¬ (0 : Int) ≤ ((0 : Nat) : Int) - 1 := by omega
          go_wp2_with fail
          go_end0
          exact ⟨rfl, by unfold Sort.heapSort; rw [← HM0.out, ← HB.out, ← HP.out]; exact S1.out⟩
end Go.Proofs.YtnkdcmibafjplaaGreatDoor
