/-
  The shingles of a text: of both packages.
-/
import Derived.Test.YtnkdcmibafjplaaGreatDoorProg
import Derived.Test.YtnkdcmibafjplaaGreatDoorJoinSp
import Derived.Test.YtnkdcmibafjplaaGreatDoorFinger
import Derived.Test.YtnkdcmibafjplaaGreatDoorStr
import Derived.Test.YtnkdcmibafjplaaGreatDoorCompU
namespace Go.Proofs.YtnkdcmibafjplaaGreatDoor
open Go.RowKit
set_option linter.unusedVariables false
set_option linter.unusedSimpArgs false

/-- As many words as a shingle has. -/
def shN (ws : List (List UInt8)) (n : Nat) : Nat := if 0 < ws.length ∧ ws.length < n then ws.length else n
/-- As many shingles as there are, the same ones counted each. -/
def shM (ws : List (List UInt8)) (n : Nat) : Nat := if ws.length = 0 then 0 else ws.length + 1 - shN ws n
def shRaw (ws : List (List UInt8)) (N k : Nat) : List Int := (List.range k).map fun i => fnv (sjoin ((ws.drop i).take N))
theorem shRaw_len (ws : List (List UInt8)) (N k : Nat) : (shRaw ws N k).length = k := by simp [shRaw]
theorem shRaw_succ (ws : List (List UInt8)) (N k : Nat) : shRaw ws N (k + 1) = shRaw ws N k ++ [fnv (sjoin ((ws.drop k).take N))] := by simp [shRaw, List.range_succ]
def shL (t : List UInt8) (n : Nat) : List Int := compU (srtU (shRaw (wordsL t) (shN (wordsL t) n) (shM (wordsL t) n)))
theorem shL_len {t : List UInt8} (ht : t.length ≤ 20000) (n : Nat) (h1 : 1 ≤ n) : (shL t n).length ≤ 20001 := by
  unfold shL
  refine Nat.le_trans (compU_len _) ?_
  rw [srtU_len, shRaw_len]
  have := wordsL_len ht
  unfold shM shN
  split <;> (try split) <;> omega
theorem shL_sorted (t : List UInt8) (n : Nat) : (shL t n).Pairwise (· < ·) := compU_sorted (srtU_sorted _)
theorem shL_mem {t : List UInt8} {n : Nat} {x : Int} : x ∈ shL t n ↔ ∃ i, i < shM (wordsL t) n ∧ fnv (sjoin (((wordsL t).drop i).take (shN (wordsL t) n))) = x := by
  unfold shL
  rw [compU_mem, srtU_mem]
  simp [shRaw]
theorem shL_range {t : List UInt8} {n : Nat} {x : Int} (h : x ∈ shL t n) : 0 ≤ x ∧ x ≤ 18446744073709551615 := by
  obtain ⟨i, _, rfl⟩ := shL_mem.1 h
  exact ⟨fnv_lo _, fnv_hi _⟩
def ShPost (t : List UInt8) (n : Nat) (w : World) (e : Ending) (w' : World) : Prop :=
  ∃ v, e = .returned v ∧ w'.ownsRow w.heap.size 95 1 v (shL t n).length ((shL t n).map u64V) ∧ Below w.heap.size w w'
theorem below_grownU {B : Nat} {w wr w2 : World} {r : Option Nat} (h : Below B w wr) (hg : wr.grownBy w2 r) (hB : B ≤ wr.heap.size) (hr : ∀ g, r = some g → B ≤ g) : Below B w w2 :=
  ⟨hg.os.trans h.os, hg.tape.trans h.tape, hg.output.trans h.output, Nat.le_trans h.size hg.size, fun k hk => (hg.block k (by omega) (fun e => by have := hr k e.symm; omega)).trans (h.block k hk)⟩
theorem own_ge {w : World} {B : Nat} {e : TypeId} {size n : Nat} {v : Value} {xs : List Value} (h : w.ownsRow B e size v n xs) : ∀ g, v.ownBlock = some g → B ≤ g := fun g hg => (h.lt g hg).1
theorem own_belowU {w w' : World} {B : Nat} {e : TypeId} {size n : Nat} {v : Value} {xs : List Value} (h : w.ownsRow B e size v n xs) (hb : Below w.heap.size w w') : w'.ownsRow B e size v n xs :=
  h.kept (row := none) ⟨hb.os, hb.tape, hb.output, hb.size, fun k hk _ => hb.block k hk⟩ (by cases hg : v.ownBlock <;> simp)
theorem u64_info : (Tryz.prog.info? 95).map (fun i => (i.zero, i.size, i.bytes)) = some (some (.int .u64 0), 1, 8) := by kernel_rfl
/-- What sorting and compacting make of the row. -/
def ScPost (B : Nat) (w : World) (zs : List Int) (e : Ending) (w' : World) : Prop :=
  ∃ v, e = .returned v ∧ w'.ownsRow B 95 1 v (compU zs).length ((compU zs).map u64V) ∧ Below B w w'
theorem below_trans2 {B : Nat} {w a b : World} (h1 : Below B w a) (h2 : Below a.heap.size a b) (hB : B ≤ a.heap.size) : Below B w b :=
  ⟨h2.os.trans h1.os, h2.tape.trans h1.tape, h2.output.trans h1.output, Nat.le_trans h1.size h2.size, fun k hk => (h2.block k (by omega)).trans (h1.block k hk)⟩
set_option maxRecDepth 100000 in
set_option maxHeartbeats 4000000 in
theorem shingles_any (t : List UInt8) (n : Nat) (w : World) (ht : t.length ≤ 20000) (h1 : 1 ≤ n) (h2 : n ≤ 10) :
    Calls Tryz.prog 18 #[.string (bstr t), .int .i64 n] w (ShPost t n w) := by
  have HWD := Lib.hid (words_any t w ht)
  have hwl := wordsL_len ht
  have hwz := wordsL_size ht
  obtain ⟨ws, hws⟩ : ∃ ws, wordsL t = ws := ⟨_, rfl⟩
  have HWS := Lib.hid hws
  rw [hws] at hwl hwz
  have HZ := Lib.hid hwz
  clear hws hwz
  have hsz : (bstr t).size = t.length := rfl
  go_enter Tryz.func18, Tryz.ntmps18
  go_wp2_with (at_builtin; fail)
  refine HWD.out.mono ?_
  rintro e w1 ⟨v, rfl, hO, hb⟩
  rw [HWS.out] at hO
  obtain ⟨A, c, rfl, hc1, hc2, hA⟩ := own_form hO
  unfold maxLen at hc2
  have HS0 := Lib.hid hO
  have HW0 := Lib.hid hb
  clear hO hb HWD hA
  by_cases h0 : ws.length = 0
  · have d0 : ¬ (0 : Int) < (ws.length : Int) := by omega
    go_wp2_with (at_builtin; fail)
    go_loopw [6, 7] (fun vo vi wr => vo = .slice none 0 0 ∧ vi = .int .i64 0 ∧ wr = w1) (fun _ _ _ => 0)
    case atStart => exact ⟨rfl, rfl, rfl⟩
    case round =>
      obtain ⟨rfl, rfl, rfl⟩ := hrel
      have HM : Hid (shN ws n = n ∧ shM ws n = 0) := Lib.hid (by unfold shM; rw [if_pos (by omega)]; unfold shN; split <;> omega)
      have HO : Hid (wr.ownsRow w.heap.size 95 1 (.slice none 0 0) (shRaw ws n 0).length ((shRaw ws n 0).map u64V)) := Lib.hid (World.ownsRow_nil _ _ _ _)
      have HW := HW0
      have HS := HS0
      have d1 : ¬ (n : Int) ≤ (ws.length : Int) := by omega
      have d0 : ¬ (0 : Int) < (ws.length : Int) := by omega
      clear HS0 HW0
      go_wp2_with (at_builtin; fail)
      refine (sortU_any _ _ w.heap.size _ HO.out (by rw [shRaw_len]; omega)).mono ?_
      rintro e w5 ⟨rfl, hO5, hg5⟩
      have HB5 := Lib.hid (below_grownU HW.out hg5 HW.out.size (own_ge HO.out))
      have HO5 := Lib.hid hO5
      clear hO5 hg5 HO HS HW HZ
      go_wp2_with (at_builtin; fail)
      refine (compU_any _ _ w.heap.size _ HO5.out (by rw [srtU_len, shRaw_len]; omega)).mono ?_
      rintro e w6 ⟨v6, rfl, hO6, hg6, _⟩
      have HPP : Hid (ShPost t n w (.returned v6) w6) := Lib.hid ⟨v6, rfl, by unfold shL; rw [HWS.out, HM.out.1, HM.out.2]; exact hO6, below_grownU HB5.out hg6 HB5.out.size (own_ge HO5.out)⟩
      clear hO6 hg6 HO5 HB5
      go_wp2_with fail
      go_ret
      exact HPP.out

  have d0 : (0 : Int) < (ws.length : Int) := by omega
  by_cases hn : ws.length < n
  · have d9 : (ws.length : Int) < (n : Int) := by omega
    obtain ⟨g, rfl⟩ : ∃ g, A = some ⟨g, 0, none⟩ := by
      rcases HS0.out.2 with ⟨_, hn⟩ | ⟨g, cap, cur, e1, _⟩
      · omega
      · injection e1 with e1 _ _
        exact ⟨g, e1⟩
    have HM : Hid (shN ws n = ws.length ∧ shM ws n = 1) := Lib.hid (by unfold shM; rw [if_neg (by omega)]; unfold shN; split <;> omega)
    go_wp2_with (at_builtin; fail)
    go_loopw [6, 7] (fun vo vi wr => ∃ k : Nat, k ≤ 1 ∧ vi = .int .i64 k ∧ Hid (wr.ownsRow w.heap.size 95 1 vo (shRaw ws ws.length k).length ((shRaw ws ws.length k).map u64V)) ∧ Hid (wr.ownsRow w.heap.size 9 1 (.slice (some ⟨g, 0, none⟩) ws.length c) ws.length (strs ws)) ∧ Hid (Below w.heap.size w wr)) (fun _ vi _ => 1 - (intOf vi).toNat)
    case atStart => exact ⟨0, by omega, rfl, Lib.hid (World.ownsRow_nil _ _ _ _), HS0, HW0⟩
    case round =>
      clear HS0 HW0
      obtain ⟨k, hk, rfl, HO, HS, HW⟩ := hrel
      have q1 : IntKind.i64.wrap ((k : Int) + (ws.length : Int)) = ((k + ws.length : Nat) : Int) := by rw [IntKind.wrap_i64]; omega
      have q2 : IntKind.i64.wrap ((k : Int) + 1) = ((k + 1 : Nat) : Int) := by rw [IntKind.wrap_i64]; omega
      have hwsz := HW.out.size
      by_cases hlt : k < 1
      · have d1 : ((k + ws.length : Nat) : Int) ≤ (ws.length : Int) := by omega
        have d2 : (0 : Int) < (ws.length : Int) := by omega
        have d3 : k + ws.length - k = ws.length := by omega
        have HJ := Lib.hid (joinAt_any w.heap.size g c ws wr HS.out HZ.out k ws.length (by omega) (by omega) hc1)
        have hjl : (sjoin ((ws.drop k).take ws.length)).length ≤ 10 * 20001 := by
          have h1 := sjoin_len ((ws.drop k).take ws.length) 20000 (fun x hx => HZ.out x (List.mem_of_mem_drop (List.mem_of_mem_take hx)))
          exact Nat.le_trans h1 (Nat.mul_le_mul (by rw [List.length_take]; omega) (Nat.le_refl _))
        have HR := Lib.hid (shRaw_succ ws ws.length k)
        have HL := Lib.hid (shRaw_len ws ws.length k)
        generalize hJs : sjoin ((ws.drop k).take ws.length) = J at *
        clear hJs
        go_wp2_with (at_builtin; fail)
        (try simp only [d3])
        refine HJ.out.mono ?_
        rintro e w2 ⟨rfl, hb2⟩
        have HO2 := Lib.hid (own_belowU HO.out hb2)
        have HS2 := Lib.hid (own_belowU HS.out hb2)
        have HW2 := Lib.hid (below_trans2 HW.out hb2 hwsz)
        have hsz2 := HW2.out.size
        clear hb2 HJ HO HS HW
        go_wp2_with (at_builtin; fail)
        refine (mixedStr_any _ _ (by omega)).mono ?_
        rintro e w3 ⟨rfl, rfl⟩
        go_wp2_with (at_builtin; refine app_new (w := w2) rfl (.tmp 34) (.tmp 43) 74 rfl 95 (.int .u64 0) 1 8 Tryz.underlying74 u64_info rfl (by decide) _ HO2.out (by omega) rfl rfl rfl (by decide) (by simp [Value.oneCell']) (by rw [HL.out]; unfold maxLen; omega) (by rw [HL.out]; omega) ?_; intro g4 c4 w4 HB4 HG4 HD4 HL4)
        go_roundw
        case rel =>
          refine ⟨k + 1, by omega, by go_num, ?_, HS2.out.kept HG4.out (own_apart HS2.out HO2.out (by decide)), HD4.out _ HW2.out⟩
          rw [HR.out, List.map_append, List.length_append]
          exact HB4
        case measure => simp [intOf]; omega
      · have hke : k = 1 := by omega
        have d1 : ¬ ((k + ws.length : Nat) : Int) ≤ (ws.length : Int) := by omega
        rw [hke] at HO
        go_wp2_with (at_builtin; fail)
        refine (sortU_any _ _ w.heap.size _ HO.out (by rw [shRaw_len]; omega)).mono ?_
        rintro e w5 ⟨rfl, hO5, hg5⟩
        have HB5 := Lib.hid (below_grownU HW.out hg5 HW.out.size (own_ge HO.out))
        have HO5 := Lib.hid hO5
        clear hO5 hg5 HO HS HW HZ
        go_wp2_with (at_builtin; fail)
        refine (compU_any _ _ w.heap.size _ HO5.out (by rw [srtU_len, shRaw_len]; omega)).mono ?_
        rintro e w6 ⟨v6, rfl, hO6, hg6, _⟩
        have HPP : Hid (ShPost t n w (.returned v6) w6) := Lib.hid ⟨v6, rfl, by unfold shL; rw [HWS.out, HM.out.1, HM.out.2]; exact hO6, below_grownU HB5.out hg6 HB5.out.size (own_ge HO5.out)⟩
        clear hO6 hg6 HO5 HB5
        go_wp2_with fail
        go_ret
        exact HPP.out

  · have d9 : ¬ (ws.length : Int) < (n : Int) := by omega
    obtain ⟨g, rfl⟩ : ∃ g, A = some ⟨g, 0, none⟩ := by
      rcases HS0.out.2 with ⟨_, hn⟩ | ⟨g, cap, cur, e1, _⟩
      · omega
      · injection e1 with e1 _ _
        exact ⟨g, e1⟩
    have HM : Hid (shN ws n = n ∧ shM ws n = (ws.length + 1 - n)) := Lib.hid (by unfold shM; rw [if_neg (by omega)]; unfold shN; split <;> omega)
    go_wp2_with (at_builtin; fail)
    go_loopw [6, 7] (fun vo vi wr => ∃ k : Nat, k ≤ (ws.length + 1 - n) ∧ vi = .int .i64 k ∧ Hid (wr.ownsRow w.heap.size 95 1 vo (shRaw ws n k).length ((shRaw ws n k).map u64V)) ∧ Hid (wr.ownsRow w.heap.size 9 1 (.slice (some ⟨g, 0, none⟩) ws.length c) ws.length (strs ws)) ∧ Hid (Below w.heap.size w wr)) (fun _ vi _ => (ws.length + 1 - n) - (intOf vi).toNat)
    case atStart => exact ⟨0, by omega, rfl, Lib.hid (World.ownsRow_nil _ _ _ _), HS0, HW0⟩
    case round =>
      clear HS0 HW0
      obtain ⟨k, hk, rfl, HO, HS, HW⟩ := hrel
      have q1 : IntKind.i64.wrap ((k : Int) + (n : Int)) = ((k + n : Nat) : Int) := by rw [IntKind.wrap_i64]; omega
      have q2 : IntKind.i64.wrap ((k : Int) + 1) = ((k + 1 : Nat) : Int) := by rw [IntKind.wrap_i64]; omega
      have hwsz := HW.out.size
      by_cases hlt : k < (ws.length + 1 - n)
      · have d1 : ((k + n : Nat) : Int) ≤ (ws.length : Int) := by omega
        have d2 : (0 : Int) < (ws.length : Int) := by omega
        have d3 : k + n - k = n := by omega
        have HJ := Lib.hid (joinAt_any w.heap.size g c ws wr HS.out HZ.out k n (by omega) (by omega) hc1)
        have hjl : (sjoin ((ws.drop k).take n)).length ≤ 10 * 20001 := by
          have h1 := sjoin_len ((ws.drop k).take n) 20000 (fun x hx => HZ.out x (List.mem_of_mem_drop (List.mem_of_mem_take hx)))
          exact Nat.le_trans h1 (Nat.mul_le_mul (by rw [List.length_take]; omega) (Nat.le_refl _))
        have HR := Lib.hid (shRaw_succ ws n k)
        have HL := Lib.hid (shRaw_len ws n k)
        generalize hJs : sjoin ((ws.drop k).take n) = J at *
        clear hJs
        go_wp2_with (at_builtin; fail)
        (try simp only [d3])
        refine HJ.out.mono ?_
        rintro e w2 ⟨rfl, hb2⟩
        have HO2 := Lib.hid (own_belowU HO.out hb2)
        have HS2 := Lib.hid (own_belowU HS.out hb2)
        have HW2 := Lib.hid (below_trans2 HW.out hb2 hwsz)
        have hsz2 := HW2.out.size
        clear hb2 HJ HO HS HW
        go_wp2_with (at_builtin; fail)
        refine (mixedStr_any _ _ (by omega)).mono ?_
        rintro e w3 ⟨rfl, rfl⟩
        go_wp2_with (at_builtin; refine app_new (w := w2) rfl (.tmp 34) (.tmp 43) 74 rfl 95 (.int .u64 0) 1 8 Tryz.underlying74 u64_info rfl (by decide) _ HO2.out (by omega) rfl rfl rfl (by decide) (by simp [Value.oneCell']) (by rw [HL.out]; unfold maxLen; omega) (by rw [HL.out]; omega) ?_; intro g4 c4 w4 HB4 HG4 HD4 HL4)
        go_roundw
        case rel =>
          refine ⟨k + 1, by omega, by go_num, ?_, HS2.out.kept HG4.out (own_apart HS2.out HO2.out (by decide)), HD4.out _ HW2.out⟩
          rw [HR.out, List.map_append, List.length_append]
          exact HB4
        case measure => simp [intOf]; omega
      · have hke : k = (ws.length + 1 - n) := by omega
        have d1 : ¬ ((k + n : Nat) : Int) ≤ (ws.length : Int) := by omega
        rw [hke] at HO
        go_wp2_with (at_builtin; fail)
        refine (sortU_any _ _ w.heap.size _ HO.out (by rw [shRaw_len]; omega)).mono ?_
        rintro e w5 ⟨rfl, hO5, hg5⟩
        have HB5 := Lib.hid (below_grownU HW.out hg5 HW.out.size (own_ge HO.out))
        have HO5 := Lib.hid hO5
        clear hO5 hg5 HO HS HW HZ
        go_wp2_with (at_builtin; fail)
        refine (compU_any _ _ w.heap.size _ HO5.out (by rw [srtU_len, shRaw_len]; omega)).mono ?_
        rintro e w6 ⟨v6, rfl, hO6, hg6, _⟩
        have HPP : Hid (ShPost t n w (.returned v6) w6) := Lib.hid ⟨v6, rfl, by unfold shL; rw [HWS.out, HM.out.1, HM.out.2]; exact hO6, below_grownU HB5.out hg6 HB5.out.size (own_ge HO5.out)⟩
        clear hO6 hg6 HO5 HB5
        go_wp2_with fail
        go_ret
        exact HPP.out

end Go.Proofs.YtnkdcmibafjplaaGreatDoor
