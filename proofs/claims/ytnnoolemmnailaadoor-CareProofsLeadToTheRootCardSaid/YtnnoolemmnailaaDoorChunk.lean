/-
  'slices.Chunk' of strings, two at a time: what it hands back calls the loop's body for each pair in turn.
-/
import Derived.Test.YtnnoolemmnailaaDoorProg
import Derived.Test.YtnnoolemmnailaaDoorRound
import Derived.Deep.QuietTactic
import Derived.BigQuiet
namespace Go.Proofs.YtnnoolemmnailaaDoor
open Go.RowKit
set_option linter.unusedVariables false
set_option linter.unusedSimpArgs false
attribute [local go_sem] Oper.semAt_some

/-- Chunk number j of a row of n from ad on. -/
def chunkV (ad : Addr) (n j : Nat) : Value := if 2 * j + 1 < n then .slice (some (ad.add (2 * j))) 2 2 else .slice (some (ad.add (2 * j))) 1 1
abbrev ChunkNo (n : Nat) := { j : Nat // 2 * j < n }
/-- The two boxes are as they were. -/
def KeepsBoxes (B1 B2 : Nat) (w w' : World) : Prop := Same (fun b => b = B1 ∨ b = B2) w w'
set_option maxRecDepth 100000 in
set_option maxHeartbeats 400000 in
theorem chunk_any (A : Option Addr) (n c : Nat) (w : World) :
    Calls Tryd.prog 129 #[.slice A n c, .int .i64 2] w fun e w' => e = .returned (.func (.func 159) #[] #[.pointer (some ⟨w.heap.size, 0, none⟩), .pointer (some ⟨w.heap.size + 1, 0, none⟩)]) ∧ w' = (w.alloc (.cells #[.slice A n c] 49)).alloc (.cells #[.int .i64 2] 3) := by
  go_enter Tryd.func129, Tryd.ntmps129
  go_wp2_with fail
  go_ret
  exact ⟨rfl, rfl⟩
set_option maxRecDepth 100000 in
set_option maxHeartbeats 2000000 in
theorem chunk_stops (m B1 B2 n c : Nat) (ad : Addr) (hn : n ≤ 100000) (hnc : n ≤ c) (hc : c ≤ maxLen) (w : World) (h1 : B1 < w.heap.size) (h2 : B2 < w.heap.size)
    (c1 : w.cell? ⟨B1, 0, none⟩ = some (.slice (some ad) n c)) (c2 : w.cell? ⟨B2, 0, none⟩ = some (.int .i64 2)) :
    SeqStopsK Fence.wide m Tryd.prog 159 #[.pointer (some ⟨B1, 0, none⟩), .pointer (some ⟨B2, 0, none⟩)] (fun x : ChunkNo n => #[chunkV ad n x.1]) (KeepsBoxes B1 B2) (fun xs => xs.map (·.1) = List.range ((n + 1) / 2)) (fun _ => True) ((n + 1) / 2) w := fun l J Jx W hW hJ hJx hY h0 => by
  unfold maxLen at hc
  have HJ := Lib.hid hJ
  have HY := Lib.hid hY
  have q1 := (hW.cell (p := ⟨B1, 0, none⟩) h1).trans c1
  have q2 := (hW.cell (p := ⟨B2, 0, none⟩) h2).trans c2
  clear c1 c2 hW hJ hY
  refine callsIn_of_wp Tryd.func159 rfl trivial ?_ rfl
  simp only [Tryd.ntmps159, List.size_toArray, List.length_cons, List.length_nil, Nat.reduceAdd, Nat.reduceSub, Array.replicate_succ, Array.replicate_zero, List.push_toArray, List.append_toArray, List.nil_append, List.cons_append]
  gi_wp2
  gi_loopw [4] (fun i wr => ∃ (k : Nat) (pre : List (ChunkNo n)), i = .int .i64 ((2 * k : Nat) : Int) ∧ 2 * k ≤ n + 1 ∧ pre.map (·.1) = List.range k ∧ Hid (J pre wr) ∧ Hid (KeepsBoxes B1 B2 W wr)) (fun i _ => n + 1 - (intOf i).toNat)
  case atStart => exact ⟨0, [], rfl, by omega, rfl, h0, Same.refl _ _⟩
  case round =>
    obtain ⟨k, pre, rfl, hk, hpre, HP, HK⟩ := hrel
    have r1 := (HK.out.cell (a := ⟨B1, 0, none⟩) (.inl rfl)).trans q1
    have r2 := (HK.out.cell (a := ⟨B2, 0, none⟩) (.inr rfl)).trans q2
    have hlen : pre.length = k := by have := congrArg List.length hpre; simpa using this
    by_cases hlt : 2 * k < n
    · by_cases hp : 2 * k + 1 < n
      · have p1 : (2 : Int) ≤ (n : Int) - ((2 * k : Nat) : Int) := by omega
        have p2 : (0 : Int) ≤ ((2 * k : Nat) : Int) ∧ ((2 * k : Nat) : Int) ≤ n := by omega
        have e1 : IntKind.i64.wrap (((2 * k : Nat) : Int) + 2) = ((2 * k + 2 : Nat) : Int) := by rw [IntWalk.i64_in _ (by omega)]; omega
        have e2 : IntKind.i64.wrap (((2 * k : Nat) : Int) + 2) = ((2 * (k + 1) : Nat) : Int) := by rw [IntWalk.i64_in _ (by omega)]; omega
        gi_wp2
        refine wpIn_wide.2 ?_
        go_quiet (fail)
        have HP2 := Lib.hid (HJ.out pre wr (wr.drewN nq) none HP.out ((Drawn.refl wr).more nq |>.grown none) (fun r e => by cases e))
        have HK2 : Hid (KeepsBoxes B1 B2 W (wr.drewN nq)) := Lib.hid (HK.out.trans (((Drawn.refl wr).more nq).same _))
        have s1 : (wr.drewN nq).cell? ⟨B1, 0, none⟩ = some (.slice (some ad) n c) := r1
        have s2 : (wr.drewN nq).cell? ⟨B2, 0, none⟩ = some (.int .i64 2) := r2
        generalize wr.drewN nq = wq at *
        clear r1 r2 HP HK
        obtain ⟨fn, tmps, assign, body, hy, hR⟩ := HY.out pre ⟨k, hlt⟩ wq HP2.out (by omega)
        rw [show chunkV ad n k = .slice (some (ad.add (2 * k))) 2 2 by rw [chunkV, if_pos hp]] at hy
        gi_wp2
        refine ⟨fun h => (by cases h), hR.mono ?_⟩
        have HK3 := Lib.hid (fun (W3 : World) (h : KeepsBoxes B1 B2 wq W3) => HK2.out.trans h)
        clear hR hy HK2 HY HJ
        rintro e W3 (⟨rfl, hJ3, hk3⟩ | ⟨rfl, hJx3⟩)
        · have HJ3 := Lib.hid hJ3
          have t2 := (hk3.cell (a := ⟨B2, 0, none⟩) (.inr rfl)).trans s2
          have HK4 := Lib.hid (HK3.out W3 hk3)
          clear hJ3 hk3 HK3 s1 s2 HP2
          gi_wp2
          go_roundw
          case rel => exact ⟨k + 1, pre ++ [⟨k, hlt⟩], by congr 1, by omega, by rw [List.map_append, hpre, List.range_succ]; rfl, HJ3, HK4⟩
          case measure => simp [intOf]; omega
        · have HX := Lib.hid hJx3
          clear hJx3
          gi_wp2
          refine bodyPost_ret (results_none rfl _ _ _) rfl ?_
          exact ⟨⟨_, rfl⟩, .inr ⟨_, trivial, HX.out⟩⟩
      · have p1 : (n : Int) - ((2 * k : Nat) : Int) = 1 := by omega
        have p3 : n - 2 * k = 1 := by omega
        have p2 : (0 : Int) ≤ ((2 * k : Nat) : Int) ∧ ((2 * k : Nat) : Int) ≤ n := by omega
        have e1 : IntKind.i64.wrap (((2 * k : Nat) : Int) + 1) = ((2 * k + 1 : Nat) : Int) := by rw [IntWalk.i64_in _ (by omega)]; omega
        have e2 : IntKind.i64.wrap (((2 * k : Nat) : Int) + 2) = ((2 * (k + 1) : Nat) : Int) := by rw [IntWalk.i64_in _ (by omega)]; omega
        gi_wp2
        refine wpIn_wide.2 ?_
        go_quiet (fail)
        have HP2 := Lib.hid (HJ.out pre wr (wr.drewN nq) none HP.out ((Drawn.refl wr).more nq |>.grown none) (fun r e => by cases e))
        have HK2 : Hid (KeepsBoxes B1 B2 W (wr.drewN nq)) := Lib.hid (HK.out.trans (((Drawn.refl wr).more nq).same _))
        have s1 : (wr.drewN nq).cell? ⟨B1, 0, none⟩ = some (.slice (some ad) n c) := r1
        have s2 : (wr.drewN nq).cell? ⟨B2, 0, none⟩ = some (.int .i64 2) := r2
        generalize wr.drewN nq = wq at *
        clear r1 r2 HP HK
        obtain ⟨fn, tmps, assign, body, hy, hR⟩ := HY.out pre ⟨k, hlt⟩ wq HP2.out (by omega)
        rw [show chunkV ad n k = .slice (some (ad.add (2 * k))) 1 1 by rw [chunkV, if_neg hp]] at hy
        gi_wp2
        refine ⟨fun h => (by cases h), hR.mono ?_⟩
        have HK3 := Lib.hid (fun (W3 : World) (h : KeepsBoxes B1 B2 wq W3) => HK2.out.trans h)
        clear hR hy HK2 HY HJ
        rintro e W3 (⟨rfl, hJ3, hk3⟩ | ⟨rfl, hJx3⟩)
        · have HJ3 := Lib.hid hJ3
          have t2 := (hk3.cell (a := ⟨B2, 0, none⟩) (.inr rfl)).trans s2
          have HK4 := Lib.hid (HK3.out W3 hk3)
          clear hJ3 hk3 HK3 s1 s2 HP2
          gi_wp2
          go_roundw
          case rel => exact ⟨k + 1, pre ++ [⟨k, hlt⟩], by congr 1, by omega, by rw [List.map_append, hpre, List.range_succ]; rfl, HJ3, HK4⟩
          case measure => simp [intOf]; omega
        · have HX := Lib.hid hJx3
          clear hJx3
          gi_wp2
          refine bodyPost_ret (results_none rfl _ _ _) rfl ?_
          exact ⟨⟨_, rfl⟩, .inr ⟨_, trivial, HX.out⟩⟩
    · gi_wp2
      go_end0
      exact ⟨⟨_, rfl⟩, .inl ⟨pre, by rw [hpre]; congr 1; omega, HP.out⟩⟩
end Go.Proofs.YtnnoolemmnailaaDoor
