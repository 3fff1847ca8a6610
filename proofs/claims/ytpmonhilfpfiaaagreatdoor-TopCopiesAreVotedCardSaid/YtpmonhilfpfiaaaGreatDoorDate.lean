/-
  The moment 0 as a text: DateText of package message at 0.
-/
import Derived.Test.YtpmonhilfpfiaaaGreatDoorProg
import Derived.Test.YtpmonhilfpfiaaaGreatDoorBase
import Derived.Test.YtpmonhilfpfiaaaGreatDoorDigC
import Derived.Test.YtpmonhilfpfiaaaGreatDoorStr
import Derived.Test.YtpmonhilfpfiaaaGreatDoorRepeat
import Derived.Test.YtpmonhilfpfiaaaGreatDoorPkgOf
import Derived.Lib.ItoaNum
import Derived.Shelf.Strconv.Itoa3
import Derived.Lib.AppendIntMem
import Derived.Laws.Rows
import Derived.Laws.ResultCell
import Derived.Deep.RegionHeld
namespace Go.Proofs.YtpmonhilfpfiaaaGreatDoor
open Go.RowKit Go.Shelf
set_option linter.unusedVariables false
set_option linter.unusedSimpArgs false

def shItoa_ren : Go.Shelf.Ren := ⟨fun | 129 => 98 | 171 => 106 | 243 => 137 | 246 => 160 | 283 => 176 | 284 => 177 | 285 => 178 | 286 => 179 | 317 => 188 | 318 => 189 | 319 => 190 | 320 => 191 | 337 => 193 | 338 => 194 | n => n, fun | 0 => 0 | 2 => 2 | 3 => 3 | 4 => 4 | 5 => 5 | 9 => 9 | 20 => 20 | 37 => 57 | 46 => 113 | 51 => 157 | 53 => 93 | 171 => 216 | 173 => 218 | 212 => 227 | 213 => 228 | 232 => 230 | 233 => 231 | n => n, fun | 17 => 3 | 18 => 4 | 19 => 5 | n => n⟩
theorem shItoa : LaysM.n171 Tryz.prog shItoa_ren := {
  mixed := by kernel_rfl,
  f129 := Tryz.func98.trans (congrArg some (by kernel_rfl)),
  f171 := Tryz.func106.trans (congrArg some (by kernel_rfl)),
  f243 := Tryz.func137.trans (congrArg some (by kernel_rfl)),
  f246 := Tryz.func160.trans (congrArg some (by kernel_rfl)),
  f283 := Tryz.func176.trans (congrArg some (by kernel_rfl)),
  f284 := Tryz.func177.trans (congrArg some (by kernel_rfl)),
  f285 := Tryz.func178.trans (congrArg some (by kernel_rfl)),
  f286 := Tryz.func179.trans (congrArg some (by kernel_rfl)),
  f317 := Tryz.func188.trans (congrArg some (by kernel_rfl)),
  f318 := Tryz.func189.trans (congrArg some (by kernel_rfl)),
  f319 := Tryz.func190.trans (congrArg some (by kernel_rfl)),
  f320 := Tryz.func191.trans (congrArg some (by kernel_rfl)),
  f337 := Tryz.func193.trans (congrArg some (by kernel_rfl)),
  f338 := Tryz.func194.trans (congrArg some (by kernel_rfl)),
  t0 := Tryz.underlying0,
  a0 := Tryz.isAgg0,
  z0 := Tryz.sizeOf0,
  v0 := Tryz.zeroValue0,
  t2 := Tryz.underlying2,
  a2 := Tryz.isAgg2,
  z2 := Tryz.sizeOf2,
  v2 := Tryz.zeroValue2,
  t3 := Tryz.underlying3,
  a3 := Tryz.isAgg3,
  z3 := Tryz.sizeOf3,
  v3 := Tryz.zeroValue3,
  t4 := Tryz.underlying4,
  a4 := Tryz.isAgg4,
  z4 := Tryz.sizeOf4,
  v4 := Tryz.zeroValue4,
  t5 := Tryz.underlying5,
  a5 := Tryz.isAgg5,
  z5 := Tryz.sizeOf5,
  v5 := Tryz.zeroValue5,
  t9 := Tryz.underlying9,
  a9 := Tryz.isAgg9,
  z9 := Tryz.sizeOf9,
  v9 := Tryz.zeroValue9,
  t20 := Tryz.underlying20,
  a20 := Tryz.isAgg20,
  z20 := Tryz.sizeOf20,
  v20 := Tryz.zeroValue20,
  t37 := Tryz.underlying57,
  a37 := Tryz.isAgg57,
  z37 := Tryz.sizeOf57,
  v37 := Tryz.zeroValue57,
  t46 := Tryz.underlying113,
  a46 := Tryz.isAgg113,
  z46 := Tryz.sizeOf113,
  v46 := Tryz.zeroValue113,
  t51 := Tryz.underlying157,
  a51 := Tryz.isAgg157,
  z51 := Tryz.sizeOf157,
  v51 := Tryz.zeroValue157,
  t53 := Tryz.underlying93,
  a53 := Tryz.isAgg93,
  z53 := Tryz.sizeOf93,
  v53 := Tryz.zeroValue93,
  t171 := Tryz.underlying216,
  a171 := Tryz.isAgg216,
  z171 := Tryz.sizeOf216,
  v171 := Tryz.zeroValue216,
  t173 := Tryz.underlying218,
  a173 := Tryz.isAgg218,
  z173 := Tryz.sizeOf218,
  v173 := Tryz.zeroValue218,
  t212 := Tryz.underlying227,
  a212 := Tryz.isAgg227,
  z212 := Tryz.sizeOf227,
  v212 := Tryz.zeroValue227,
  t213 := Tryz.underlying228,
  a213 := Tryz.isAgg228,
  z213 := Tryz.sizeOf228,
  t232 := Tryz.underlying230,
  a232 := Tryz.isAgg230,
  z232 := Tryz.sizeOf230,
  v232 := Tryz.zeroValue230,
  t233 := Tryz.underlying231,
  a233 := Tryz.isAgg231,
  z233 := Tryz.sizeOf231,
  v233 := Tryz.zeroValue231,
  g17 := by kernel_rfl,
  g18 := by kernel_rfl,
  g19 := by kernel_rfl,
  i0 := by kernel_rfl,
  i2 := by kernel_rfl,
  i3 := by kernel_rfl,
  i4 := by kernel_rfl,
  i5 := by kernel_rfl,
  i9 := by kernel_rfl,
  i20 := by kernel_rfl,
  i37 := by kernel_rfl,
  i46 := by kernel_rfl,
  i51 := by kernel_rfl,
  i53 := by kernel_rfl,
  i171 := by kernel_rfl,
  i173 := by kernel_rfl,
  i212 := by kernel_rfl,
  i232 := by kernel_rfl,
  i233 := by kernel_rfl,
  m17 := by kernel_rfl,
  m18 := by kernel_rfl,
  m19 := by kernel_rfl }
def TI (w : World) : Prop := Lib.TabIs Tryz.prog w "internal/strconv.uint64pow10" .u64 Lib.pow10Tab
theorem TI.ext {w w' : World} (h : TI w) (hb : Below w.heap.size w w') : TI w' := (Lib.tabBelow_of_tabIs h) w' hb
theorem below_grownM (w : World) (q : Nat) (os : Array Obj) : Below w.heap.size w (Go.Sort.grow (w.drewN q) os) :=
  ⟨rfl, rfl, rfl, by show w.heap.size ≤ (w.heap ++ os).size; rw [Array.size_append]; omega, fun _ hj => Go.Sort.heap_grow_old (w.drewN q) os hj⟩
theorem itoa_any (n : Int) (w : World) (hT : TI w) (h0 : 0 ≤ n) (h1 : n ≤ 253402300800) :
    Calls Tryz.prog 106 #[.int .i64 n] w fun e w' => e = .returned (.string (bstr (Lib.itoa n))) ∧ Below w.heap.size w w' := by
  refine (Any.strconv_Itoa shItoa n (by omega) (by omega) w hT).mono ?_
  rintro e w' ⟨rfl, k, os, rfl⟩
  exact ⟨rfl, below_grownM _ _ _⟩
def preB (t p : List UInt8) : Bool := decide (p.length ≤ t.length) && decide (t.take p.length = p)
set_option maxRecDepth 100000 in
set_option maxHeartbeats 1000000 in
theorem hasPre0_any (t p : List UInt8) (w : World) (ht : t.length ≤ 9223372036854775807) :
    Calls Tryz.prog 45 #[.string (bstr t), .string (bstr p)] w fun e w' => e = .returned (.bool (preB t p)) ∧ w' = w := by
  have hs1 : (bstr t).size = t.length := rfl
  have hs2 : (bstr p).size = p.length := rfl
  by_cases h : p.length ≤ t.length
  · have h' : (p.length : Int) ≤ (t.length : Int) := by omega
    have hx : (bstr t).extract 0 p.length = bstr (t.take p.length) := extract_head t p.length
    by_cases he : t.take p.length = p
    · have hb : ((bstr (t.take p.length)).toList == (bstr p).toList) = true := str_beq (by rw [he])
      have HF : Hid (preB t p = true) := Lib.hid (by unfold preB; rw [decide_eq_true h, decide_eq_true he]; rfl)
      clear he
      go_enter Tryz.func45, Tryz.ntmps45
      go_wp2_with fail
      go_ret
      exact ⟨by rw [HF.out]; rfl, rfl⟩
    · have hb : ((bstr (t.take p.length)).toList == (bstr p).toList) = false := str_bne (fun e => he (bstr_inj e))
      have HF : Hid (preB t p = false) := Lib.hid (by unfold preB; rw [decide_eq_false he, Bool.and_false])
      clear he
      go_enter Tryz.func45, Tryz.ntmps45
      go_wp2_with fail
      go_ret
      exact ⟨by rw [HF.out]; rfl, rfl⟩
  · have h' : ¬ (p.length : Int) ≤ (t.length : Int) := by omega
    have HF : Hid (preB t p = false) := Lib.hid (by unfold preB; rw [decide_eq_false h]; rfl)
    go_enter Tryz.func45, Tryz.ntmps45
    go_wp2_with fail
    go_ret
    exact ⟨by rw [HF.out]; rfl, rfl⟩
set_option maxRecDepth 100000 in
set_option maxHeartbeats 1000000 in
theorem hasPre_any (t p : List UInt8) (w : World) (ht : t.length ≤ 9223372036854775807) :
    Calls Tryz.prog 18 #[.string (bstr t), .string (bstr p)] w fun e w' => e = .returned (.bool (preB t p)) ∧ w' = w := by
  go_enter Tryz.func18, Tryz.ntmps18
  go_wp2_with fail
  refine (hasPre0_any t p w ht).mono ?_
  rintro e w1 ⟨rfl, rfl⟩
  generalize hq : preB t p = q
  have HQ := Lib.hid hq
  clear hq
  go_wp2_with fail
  go_ret
  exact ⟨by rw [HQ.out]; rfl, rfl⟩
set_option maxRecDepth 100000 in
set_option maxHeartbeats 2000000 in
theorem monthLong_jan (w : World) : Calls Tryz.prog 136 #[.int .i64 1970, .int .i64 1] w fun e w' => e = .returned (.int .i64 31) ∧ w' = w := by
  go_enter Tryz.func136, Tryz.ntmps136
  go_wp2_with fail
  go_ret
  exact ⟨rfl, rfl⟩
set_option maxRecDepth 100000 in
set_option maxHeartbeats 2000000 in
theorem days_71 (w : World) : Calls Tryz.prog 105 #[.int .i64 1971, .int .i64 1] w fun e w' => e = .returned (.int .i64 365) ∧ w' = w := by
  go_enter Tryz.func105, Tryz.ntmps105
  go_wp2_with fail
  go_loopw [6, 7] (fun vn vm wr => ∃ j : Nat, j ≤ 0 ∧ vn = .int .i64 (365) ∧ vm = .int .i64 ((j : Int) + 1) ∧ wr = w) (fun _ vm _ => 5 - (intOf vm).toNat)
  case atStart => exact ⟨0, by omega, rfl, rfl, rfl⟩
  case round =>
    obtain ⟨j, hj, rfl, rfl, rfl⟩ := hrel
    obtain rfl : j = 0 := by omega
    rw [show (((0 : Nat) : Int) + 1) = 1 from rfl]
    go_wp2_with fail
    go_ret
    exact ⟨rfl, rfl⟩
set_option maxRecDepth 100000 in
set_option maxHeartbeats 2000000 in
theorem days_70 (w : World) : Calls Tryz.prog 105 #[.int .i64 1970, .int .i64 1] w fun e w' => e = .returned (.int .i64 0) ∧ w' = w := by
  go_enter Tryz.func105, Tryz.ntmps105
  go_wp2_with fail
  go_loopw [6, 7] (fun vn vm wr => ∃ j : Nat, j ≤ 0 ∧ vn = .int .i64 (0) ∧ vm = .int .i64 ((j : Int) + 1) ∧ wr = w) (fun _ vm _ => 5 - (intOf vm).toNat)
  case atStart => exact ⟨0, by omega, rfl, rfl, rfl⟩
  case round =>
    obtain ⟨j, hj, rfl, rfl, rfl⟩ := hrel
    obtain rfl : j = 0 := by omega
    rw [show (((0 : Nat) : Int) + 1) = 1 from rfl]
    go_wp2_with fail
    go_ret
    exact ⟨rfl, rfl⟩
set_option maxRecDepth 100000 in
set_option maxHeartbeats 2000000 in
theorem days_feb (w : World) : Calls Tryz.prog 105 #[.int .i64 1970, .int .i64 2] w fun e w' => e = .returned (.int .i64 31) ∧ w' = w := by
  go_enter Tryz.func105, Tryz.ntmps105
  go_wp2_with fail
  go_loopw [6, 7] (fun vn vm wr => ∃ j : Nat, j ≤ 1 ∧ vn = .int .i64 (31 * (j : Int)) ∧ vm = .int .i64 ((j : Int) + 1) ∧ wr = w) (fun _ vm _ => 5 - (intOf vm).toNat)
  case atStart => exact ⟨0, by omega, rfl, rfl, rfl⟩
  case round =>
    obtain ⟨j, hj, rfl, rfl, rfl⟩ := hrel
    have : j = 0 ∨ j = 1 := by omega
    rcases this with rfl | rfl
    · rw [show (((0 : Nat) : Int) + 1) = 1 from rfl]
      go_wp2_with fail
      refine (monthLong_jan _).mono ?_
      rintro e w1 ⟨rfl, rfl⟩
      go_wp2_with fail
      go_roundw
      case rel => exact ⟨1, by omega, by first | rfl | trivial | decide, by first | rfl | trivial | decide, by first | rfl | trivial⟩
      case measure => simp [intOf]
    · rw [show (((1 : Nat) : Int) + 1) = 2 from rfl]
      go_wp2_with fail
      go_ret
      exact ⟨rfl, rfl⟩
theorem date_info : (Tryz.prog.info? 134).map (·.size) = some 6 := by kernel_rfl
set_option maxRecDepth 100000 in
set_option maxHeartbeats 2000000 in
theorem dateOf_0 (w : World) : Calls Tryz.prog 71 #[.int .i64 0] w fun e w' => e = .returned (.agg #[.int .i64 1970, .int .i64 1, .int .i64 1, .int .i64 0, .int .i64 0, .int .i64 0]) ∧ Below w.heap.size w w' := by
  have hk0 := Blk.new w 134 [.int .i64 0, .int .i64 0, .int .i64 0, .int .i64 0, .int .i64 0, .int .i64 0]
  have hb0 := (Below.refl w.heap.size w).alloc (Nat.le_refl _) (.cells #[.int .i64 0, .int .i64 0, .int .i64 0, .int .i64 0, .int .i64 0, .int .i64 0] 134)
  have hz0 : (w.alloc (.cells #[.int .i64 0, .int .i64 0, .int .i64 0, .int .i64 0, .int .i64 0, .int .i64 0] 134)).heap.size = w.heap.size + 1 := by simp
  have hk1 := Blk.new (w.alloc (.cells #[.int .i64 0, .int .i64 0, .int .i64 0, .int .i64 0, .int .i64 0, .int .i64 0] 134)) 134 [.int .i64 1970, .int .i64 1, .int .i64 0, .int .i64 0, .int .i64 0, .int .i64 0]
  have hb1 := hb0.alloc (by simp) (.cells #[.int .i64 1970, .int .i64 1, .int .i64 0, .int .i64 0, .int .i64 0, .int .i64 0] 134)
  have hr1 := hk0.alloc_o (.cells #[.int .i64 1970, .int .i64 1, .int .i64 0, .int .i64 0, .int .i64 0, .int .i64 0] 134)
  rw [hz0] at hk1
  have HK := Lib.hid hk1
  have HR := Lib.hid hr1
  have HB := Lib.hid hb1
  clear hk0 hb0 hk1 hb1 hr1
  go_enter Tryz.func71, Tryz.ntmps71
  go_wp2_with fail
  generalize (w.alloc (.cells #[.int .i64 0, .int .i64 0, .int .i64 0, .int .i64 0, .int .i64 0, .int .i64 0] 134)).alloc (.cells #[.int .i64 1970, .int .i64 1, .int .i64 0, .int .i64 0, .int .i64 0, .int .i64 0] 134) = w2 at *
  have hne : w.heap.size ≠ w.heap.size + 1 := by omega
  have k0 : w2.cell? ⟨w.heap.size + 1, 0, none⟩ = some (.int .i64 1970) := HK.out.cell 0
  have k1 : w2.cell? ⟨w.heap.size + 1, 1, none⟩ = some (.int .i64 1) := HK.out.cell 1
  go_loopw [26] (fun v wr => wr = w2) (fun _ _ => 0)
  case atStart => rfl
  case round =>
    subst hrel
    go_wp2_with fail
    refine (days_71 _).mono ?_
    rintro e w3 ⟨rfl, hw3⟩
    subst hw3
    go_wp2_with fail
    obtain ⟨w2, hw2⟩ : ∃ w2, w2 = w3 := ⟨_, rfl⟩
    subst hw2
    go_loopw [43] (fun v wr => wr = w2) (fun _ _ => 0)
    case atStart => rfl
    case round =>
      subst hrel
      go_wp2_with fail
      refine (days_feb _).mono ?_
      rintro e w4 ⟨rfl, hw4⟩
      subst hw4
      go_wp2_with fail
      refine (days_70 _).mono ?_
      rintro e w5 ⟨rfl, hw5⟩
      subst hw5
      have HKS := Lib.hid (HK.out.set_ 2 (.int .i64 1))
      have HRS := Lib.hid (HR.out.set_o (g' := w.heap.size + 1) (i := 2) hne (.int .i64 1))
      have HBS := Lib.hid (HB.out.setCell (p := ⟨w.heap.size + 1, 2, none⟩) (by show w.heap.size ≤ w.heap.size + 1; omega) (.int .i64 1))
      have z2 := HK.out.frozen 2
      have k2 : w5.cell? ⟨w.heap.size + 1, 2, none⟩ = some (.int .i64 0) := HK.out.cell 2
      have m0 : (w5.setCell ⟨w.heap.size + 1, 2, none⟩ (.int .i64 1)).cell? ⟨w.heap.size + 1, 0, none⟩ = _ := HKS.out.cell 0
      have r0 : (w5.setCell ⟨w.heap.size + 1, 2, none⟩ (.int .i64 1)).cell? ⟨w.heap.size, 0, none⟩ = _ := HRS.out.cell 0
      have f0 := HRS.out.frozen 0
      have m1 : (w5.setCell ⟨w.heap.size + 1, 2, none⟩ (.int .i64 1)).cell? ⟨w.heap.size + 1, 1, none⟩ = _ := HKS.out.cell 1
      have r1 : (w5.setCell ⟨w.heap.size + 1, 2, none⟩ (.int .i64 1)).cell? ⟨w.heap.size, 1, none⟩ = _ := HRS.out.cell 1
      have f1 := HRS.out.frozen 1
      have m2 : (w5.setCell ⟨w.heap.size + 1, 2, none⟩ (.int .i64 1)).cell? ⟨w.heap.size + 1, 2, none⟩ = _ := HKS.out.cell 2
      have r2 : (w5.setCell ⟨w.heap.size + 1, 2, none⟩ (.int .i64 1)).cell? ⟨w.heap.size, 2, none⟩ = _ := HRS.out.cell 2
      have f2 := HRS.out.frozen 2
      have m3 : (w5.setCell ⟨w.heap.size + 1, 2, none⟩ (.int .i64 1)).cell? ⟨w.heap.size + 1, 3, none⟩ = _ := HKS.out.cell 3
      have r3 : (w5.setCell ⟨w.heap.size + 1, 2, none⟩ (.int .i64 1)).cell? ⟨w.heap.size, 3, none⟩ = _ := HRS.out.cell 3
      have f3 := HRS.out.frozen 3
      have m4 : (w5.setCell ⟨w.heap.size + 1, 2, none⟩ (.int .i64 1)).cell? ⟨w.heap.size + 1, 4, none⟩ = _ := HKS.out.cell 4
      have r4 : (w5.setCell ⟨w.heap.size + 1, 2, none⟩ (.int .i64 1)).cell? ⟨w.heap.size, 4, none⟩ = _ := HRS.out.cell 4
      have f4 := HRS.out.frozen 4
      have m5 : (w5.setCell ⟨w.heap.size + 1, 2, none⟩ (.int .i64 1)).cell? ⟨w.heap.size + 1, 5, none⟩ = _ := HKS.out.cell 5
      have r5 : (w5.setCell ⟨w.heap.size + 1, 2, none⟩ (.int .i64 1)).cell? ⟨w.heap.size, 5, none⟩ = _ := HRS.out.cell 5
      have f5 := HRS.out.frozen 5
      simp only [List.getElem?_cons_zero, List.getElem?_cons_succ, List.set_cons_succ, List.set_cons_zero] at m0 m1 m2 m3 m4 m5 r0 r1 r2 r3 r4 r5
      have HBK := Lib.hid ((((((HRS.out.set_ 0 (.int .i64 1970)).set_ 1 (.int .i64 1)).set_ 2 (.int .i64 1)).set_ 3 (.int .i64 0)).set_ 4 (.int .i64 0)).set_ 5 (.int .i64 0))
      have HBL := Lib.hid ((((((HBS.out.setCell (p := ⟨w.heap.size, 0, none⟩) (Nat.le_refl _) (.int .i64 1970)).setCell (p := ⟨w.heap.size, 1, none⟩) (Nat.le_refl _) (.int .i64 1)).setCell (p := ⟨w.heap.size, 2, none⟩) (Nat.le_refl _) (.int .i64 1)).setCell (p := ⟨w.heap.size, 3, none⟩) (Nat.le_refl _) (.int .i64 0)).setCell (p := ⟨w.heap.size, 4, none⟩) (Nat.le_refl _) (.int .i64 0)).setCell (p := ⟨w.heap.size, 5, none⟩) (Nat.le_refl _) (.int .i64 0))
      go_wp2_with fail
      refine bodyPost_ret (results_cell_row rfl _ _ w.heap.size 134 #[.int .i64 1970, .int .i64 1, .int .i64 1, .int .i64 0, .int .i64 0, .int .i64 0] (0, 0) _ rfl HBK.out Tryz.underlying134 rfl date_info) rfl ?_
      exact ⟨rfl, HBL.out⟩
theorem rep_48 : ∀ k, Lib.repeatL [48] k = List.replicate k 48
  | 0 => rfl
  | k + 1 => by rw [Lib.repeatL, rep_48 k]; rfl
theorem itoa_0 : Lib.itoa 0 = [48] := by simp [Lib.itoa, Lib.decDigits]
theorem itoa_1 : Lib.itoa 1 = [49] := by simp [Lib.itoa, Lib.decDigits]
theorem itoa_1970 : Lib.itoa 1970 = [49, 57, 55, 48] := by simp [Lib.itoa, Lib.decDigits]
set_option maxRecDepth 100000 in
set_option maxHeartbeats 2000000 in
theorem padded_any (n : Int) (many k : Nat) (s : List UInt8) (w : World) (hT : TI w) (h0 : 0 ≤ n) (h1 : n ≤ 253402300800) (hs : Lib.itoa n = s) (hk : many = s.length + k) (hm : many ≤ 100) :
    Calls Tryz.prog 73 #[.int .i64 n, .int .i64 (many : Int)] w fun e w' => e = .returned (.string (bstr (List.replicate k 48 ++ s))) ∧ Below w.heap.size w w' := by
  have hit := itoa_any n w hT h0 h1
  rw [hs] at hit
  have HIT := Lib.hid hit
  have hmx : max 0 ((many : Int) - (s.length : Int)) = (k : Int) := by omega
  have hsz : (bstr s).size = s.length := rfl
  have hwr : IntKind.i64.wrap ((many : Int) - (s.length : Int)) = (many : Int) - (s.length : Int) := IntWalk.i64_in _ (by omega)
  clear hit hs h0 h1
  go_enter Tryz.func73, Tryz.ntmps73
  go_wp2_with fail
  refine HIT.out.mono ?_
  rintro e w1 ⟨rfl, hb1⟩
  have HB1 := Lib.hid hb1
  clear hb1 HIT
  go_wp2_with fail
  rw [show max 0 ((s.length : Int) + (k : Int) - (s.length : Int)) = (k : Int) by omega]
  refine (Any.strings_Repeat repLays repExtra ⟨#[48]⟩ k w1 (by omega) (by show 1 * k ≤ _; omega)).mono ?_
  rintro e w2 ⟨rfl, hb2⟩
  have HB2 := Lib.hid (ext_trans HB1.out hb2)
  clear hb2 HB1
  have hrp : (⟨(Lib.repeatL [48] k).toArray⟩ : ByteArray) = bstr (List.replicate k 48) := by rw [rep_48]; rfl
  have hsr : (bstr (List.replicate k 48)).size = k := by rw [bstr_size]; simp
  have hap : bstr (List.replicate k 48) ++ bstr s = bstr (List.replicate k 48 ++ s) := by
    apply str_inj
    rw [ByteArray.toList_eq, ByteArray.toList_eq]
    simp [bstr, ByteArray.data_append]
  rw [hrp]
  clear hrp
  go_wp2_with fail
  go_ret
  exact ⟨rfl, HB2.out⟩
theorem heldMono {P : Program} {ops : Array Oper} {Q : Exit → Act → World → Prop} {md : Region.Mode} {S S' : World → Prop} (h : ∀ w, S' w → S w) : ∀ (fuel : Nat) (listed : Array Bool) (a : Act) (w : World), wpAnyH P md ops Q S' fuel listed a w → wpAnyH P md ops Q S fuel listed a w
  | 0, _, _, _, h0 => h0
  | fuel + 1, _, _, _, h0 => ⟨h0.1, fun i hi => wpOp_mono (fun a' w' h' => ⟨h w' h'.1, heldMono h fuel _ a' w' h'.2⟩) (h0.2 i hi)⟩
theorem pad_01 (w : World) (hT : TI w) : Calls Tryz.prog 73 #[.int .i64 1, .int .i64 2] w fun e w' => e = .returned (.string ⟨#[48, 49]⟩) ∧ Below w.heap.size w w' :=
  (padded_any 1 2 1 [49] w hT (by omega) (by omega) itoa_1 rfl (by omega)).mono fun e w' h => ⟨h.1.trans rfl, h.2⟩
theorem pad_1970 (w : World) (hT : TI w) : Calls Tryz.prog 73 #[.int .i64 1970, .int .i64 4] w fun e w' => e = .returned (.string ⟨#[49, 57, 55, 48]⟩) ∧ Below w.heap.size w w' :=
  (padded_any 1970 4 0 [49, 57, 55, 48] w hT (by omega) (by omega) itoa_1970 rfl (by omega)).mono fun e w' h => ⟨h.1.trans rfl, h.2⟩
theorem pad_00 (w : World) (hT : TI w) : Calls Tryz.prog 73 #[.int .i64 0, .int .i64 2] w fun e w' => e = .returned (.string ⟨#[48, 48]⟩) ∧ Below w.heap.size w w' :=
  (padded_any 0 2 1 [48] w hT (by omega) (by omega) itoa_0 rfl (by omega)).mono fun e w' h => ⟨h.1.trans rfl, h.2⟩
set_option maxRecDepth 100000 in
set_option maxHeartbeats 2000000 in
theorem weekdays_any (w : World) : Calls Tryz.prog 72 #[] w fun e w' => e = .returned (.slice (some ⟨w.heap.size, 0, none⟩) 7 7) ∧ w' = w.alloc (.cells #[.string ⟨#[77, 111, 110]⟩, .string ⟨#[84, 117, 101]⟩, .string ⟨#[87, 101, 100]⟩, .string ⟨#[84, 104, 117]⟩, .string ⟨#[70, 114, 105]⟩, .string ⟨#[83, 97, 116]⟩, .string ⟨#[83, 117, 110]⟩] 9) := by
  go_enter Tryz.func72, Tryz.ntmps72
  go_wp2_with fail
  go_ret
  exact ⟨rfl, rfl⟩
set_option maxRecDepth 100000 in
set_option maxHeartbeats 2000000 in
theorem months_any (w : World) : Calls Tryz.prog 74 #[] w fun e w' => e = .returned (.slice (some ⟨w.heap.size, 0, none⟩) 12 12) ∧ w' = w.alloc (.cells #[.string ⟨#[74, 97, 110]⟩, .string ⟨#[70, 101, 98]⟩, .string ⟨#[77, 97, 114]⟩, .string ⟨#[65, 112, 114]⟩, .string ⟨#[77, 97, 121]⟩, .string ⟨#[74, 117, 110]⟩, .string ⟨#[74, 117, 108]⟩, .string ⟨#[65, 117, 103]⟩, .string ⟨#[83, 101, 112]⟩, .string ⟨#[79, 99, 116]⟩, .string ⟨#[78, 111, 118]⟩, .string ⟨#[68, 101, 99]⟩] 9) := by
  go_enter Tryz.func74, Tryz.ntmps74
  go_wp2_with fail
  go_ret
  exact ⟨rfl, rfl⟩
set_option maxRecDepth 100000 in
set_option maxHeartbeats 2000000 in
theorem dateText_0 (w : World) (hT : TI w) : Calls Tryz.prog 44 #[.int .i64 0] w fun e w' => e = .returned (.string ⟨#[84, 104, 117, 44, 32, 48, 49, 32, 74, 97, 110, 32, 49, 57, 55, 48, 32, 48, 48, 58, 48, 48, 58, 48, 48, 32, 71, 77, 84]⟩) ∧ Below w.heap.size w w' := by
  have HT := Lib.hid hT
  clear hT
  go_enter Tryz.func44, Tryz.ntmps44
  go_wp2_with fail
  refine (dateOf_0 w).mono ?_
  rintro e w1 ⟨rfl, hb1⟩
  have HBD := Lib.hid (hb1.alloc hb1.size (.cells #[.int .i64 1970, .int .i64 1, .int .i64 1, .int .i64 0, .int .i64 0, .int .i64 0] 134))
  have HDD := Lib.hid (Blk.new w1 134 [.int .i64 1970, .int .i64 1, .int .i64 1, .int .i64 0, .int .i64 0, .int .i64 0])
  clear hb1
  go_wp2_with fail
  generalize w1.alloc (.cells #[.int .i64 1970, .int .i64 1, .int .i64 1, .int .i64 0, .int .i64 0, .int .i64 0] 134) = wD at *
  generalize w1.heap.size = db at *
  refine wp_region_held_drew (S := fun w' => Below wD.heap.size wD w') (by kernel_rfl) (Below.drew (Below.refl _ _)) (fun hHeld0 => ?_)
  obtain ⟨wq, hwq⟩ : ∃ wq, wq = World.drew wD := ⟨_, rfl⟩
  have hbq : Below wD.heap.size wD wq := by rw [hwq]; exact Below.drew (Below.refl _ _)
  have HBQ := Lib.hid (ext_trans HBD.out hbq)
  have HDQ := Lib.hid (HDD.out.same (same_below hbq) HDD.out.lt)
  rw [← hwq] at hHeld0 ⊢
  refine heldMono (S' := fun w' => Below wq.heap.size wq w') (fun w' h => ext_trans hbq h) _ _ _ _ ?_
  have hHeld : Below wq.heap.size wq wq := Below.refl _ _
  clear hHeld0 hbq hwq
  refine wpAnyH_take (i := 1) (v := ?_) rfl (by kernel_rfl) (by kernel_rfl) (by kernel_rfl) (fun _ _ _ h => h) (Or.inl ⟨by rfl, ?_⟩) (by assumption) ?_
  rotate_left
  · (intro w hSw; go_simp; try with_reducible rfl)
  try simp only [List.getElem_toArray, List.getElem_cons_succ, List.getElem_cons_zero, Act.put, List.setIfInBounds_toArray, List.set_cons_zero, List.set_cons_succ]
  refine wpAnyH_take (i := 2) (v := .int .i64 0) rfl (by kernel_rfl) (by kernel_rfl) (by kernel_rfl) (fun _ _ _ h => h) (Or.inl ⟨by rfl, ?_⟩) (by assumption) ?_
  · (intro w hSw; go_simp <;> (first | rfl | (rw [if_neg (by decide)]; rfl)))
  try simp only [List.getElem_toArray, List.getElem_cons_succ, List.getElem_cons_zero, Act.put, List.setIfInBounds_toArray, List.set_cons_zero, List.set_cons_succ]
  refine wpAnyH_take (i := 3) (v := .int .i64 3) rfl (by kernel_rfl) (by kernel_rfl) (by kernel_rfl) (fun _ _ _ h => h) (Or.inl ⟨by rfl, ?_⟩) (by assumption) ?_
  · (intro w hSw; go_simp <;> (first | rfl | (rw [if_neg (by decide)]; rfl)))
  try simp only [List.getElem_toArray, List.getElem_cons_succ, List.getElem_cons_zero, Act.put, List.setIfInBounds_toArray, List.set_cons_zero, List.set_cons_succ]
  refine wpAnyH_take (i := 4) (v := .int .i64 3) rfl (by kernel_rfl) (by kernel_rfl) (by kernel_rfl) (fun _ _ _ h => h) (Or.inl ⟨by rfl, ?_⟩) (by assumption) ?_
  · (intro w hSw; go_simp <;> (first | rfl | (rw [if_neg (by decide)]; rfl)))
  try simp only [List.getElem_toArray, List.getElem_cons_succ, List.getElem_cons_zero, Act.put, List.setIfInBounds_toArray, List.set_cons_zero, List.set_cons_succ]
  refine wpAnyH_take (i := 8) (v := ?_) rfl (by kernel_rfl) (by kernel_rfl) (by kernel_rfl) (fun _ _ _ h => h) (Or.inl ⟨by rfl, ?_⟩) (by assumption) ?_
  rotate_left
  · (intro w hSw; go_simp; try with_reducible rfl)
  try simp only [List.getElem_toArray, List.getElem_cons_succ, List.getElem_cons_zero, Act.put, List.setIfInBounds_toArray, List.set_cons_zero, List.set_cons_succ]
  refine wpAnyH_take (i := 9) (v := ?_) rfl (by kernel_rfl) (by kernel_rfl) (by kernel_rfl) (fun _ _ _ h => h) (Or.inl ⟨by rfl, ?_⟩) (by assumption) ?_
  rotate_left
  · (intro w hSw; have q0 := (hSw.cell (p := ⟨db, 2, none⟩) HDQ.out.lt).trans (HDQ.out.cell 2); simp only [List.getElem?_cons_zero, List.getElem?_cons_succ] at q0; go_simp; try with_reducible rfl)
  try simp only [List.getElem_toArray, List.getElem_cons_succ, List.getElem_cons_zero, Act.put, List.setIfInBounds_toArray, List.set_cons_zero, List.set_cons_succ]
  refine wpAnyH_take (i := 14) (v := ?_) rfl (by kernel_rfl) (by kernel_rfl) (by kernel_rfl) (fun _ _ _ h => h) (Or.inl ⟨by rfl, ?_⟩) (by assumption) ?_
  rotate_left
  · (intro w hSw; go_simp; try with_reducible rfl)
  try simp only [List.getElem_toArray, List.getElem_cons_succ, List.getElem_cons_zero, Act.put, List.setIfInBounds_toArray, List.set_cons_zero, List.set_cons_succ]
  refine wpAnyH_take (i := 15) (v := ?_) rfl (by kernel_rfl) (by kernel_rfl) (by kernel_rfl) (fun _ _ _ h => h) (Or.inl ⟨by rfl, ?_⟩) (by assumption) ?_
  rotate_left
  · (intro w hSw; have q0 := (hSw.cell (p := ⟨db, 1, none⟩) HDQ.out.lt).trans (HDQ.out.cell 1); simp only [List.getElem?_cons_zero, List.getElem?_cons_succ] at q0; go_simp; try with_reducible rfl)
  try simp only [List.getElem_toArray, List.getElem_cons_succ, List.getElem_cons_zero, Act.put, List.setIfInBounds_toArray, List.set_cons_zero, List.set_cons_succ]
  refine wpAnyH_take (i := 16) (v := .int .i64 0) rfl (by kernel_rfl) (by kernel_rfl) (by kernel_rfl) (fun _ _ _ h => h) (Or.inl ⟨by rfl, ?_⟩) (by assumption) ?_
  · (intro w hSw; go_simp <;> (first | rfl | (rw [if_neg (by decide)]; rfl)))
  try simp only [List.getElem_toArray, List.getElem_cons_succ, List.getElem_cons_zero, Act.put, List.setIfInBounds_toArray, List.set_cons_zero, List.set_cons_succ]
  refine wpAnyH_take (i := 21) (v := ?_) rfl (by kernel_rfl) (by kernel_rfl) (by kernel_rfl) (fun _ _ _ h => h) (Or.inl ⟨by rfl, ?_⟩) (by assumption) ?_
  rotate_left
  · (intro w hSw; go_simp; try with_reducible rfl)
  try simp only [List.getElem_toArray, List.getElem_cons_succ, List.getElem_cons_zero, Act.put, List.setIfInBounds_toArray, List.set_cons_zero, List.set_cons_succ]
  refine wpAnyH_take (i := 22) (v := ?_) rfl (by kernel_rfl) (by kernel_rfl) (by kernel_rfl) (fun _ _ _ h => h) (Or.inl ⟨by rfl, ?_⟩) (by assumption) ?_
  rotate_left
  · (intro w hSw; have q0 := (hSw.cell (p := ⟨db, 0, none⟩) HDQ.out.lt).trans (HDQ.out.cell 0); simp only [List.getElem?_cons_zero, List.getElem?_cons_succ] at q0; go_simp; try with_reducible rfl)
  try simp only [List.getElem_toArray, List.getElem_cons_succ, List.getElem_cons_zero, Act.put, List.setIfInBounds_toArray, List.set_cons_zero, List.set_cons_succ]
  refine wpAnyH_take (i := 26) (v := ?_) rfl (by kernel_rfl) (by kernel_rfl) (by kernel_rfl) (fun _ _ _ h => h) (Or.inl ⟨by rfl, ?_⟩) (by assumption) ?_
  rotate_left
  · (intro w hSw; go_simp; try with_reducible rfl)
  try simp only [List.getElem_toArray, List.getElem_cons_succ, List.getElem_cons_zero, Act.put, List.setIfInBounds_toArray, List.set_cons_zero, List.set_cons_succ]
  refine wpAnyH_take (i := 27) (v := ?_) rfl (by kernel_rfl) (by kernel_rfl) (by kernel_rfl) (fun _ _ _ h => h) (Or.inl ⟨by rfl, ?_⟩) (by assumption) ?_
  rotate_left
  · (intro w hSw; have q0 := (hSw.cell (p := ⟨db, 3, none⟩) HDQ.out.lt).trans (HDQ.out.cell 3); simp only [List.getElem?_cons_zero, List.getElem?_cons_succ] at q0; go_simp; try with_reducible rfl)
  try simp only [List.getElem_toArray, List.getElem_cons_succ, List.getElem_cons_zero, Act.put, List.setIfInBounds_toArray, List.set_cons_zero, List.set_cons_succ]
  refine wpAnyH_take (i := 31) (v := ?_) rfl (by kernel_rfl) (by kernel_rfl) (by kernel_rfl) (fun _ _ _ h => h) (Or.inl ⟨by rfl, ?_⟩) (by assumption) ?_
  rotate_left
  · (intro w hSw; go_simp; try with_reducible rfl)
  try simp only [List.getElem_toArray, List.getElem_cons_succ, List.getElem_cons_zero, Act.put, List.setIfInBounds_toArray, List.set_cons_zero, List.set_cons_succ]
  refine wpAnyH_take (i := 32) (v := ?_) rfl (by kernel_rfl) (by kernel_rfl) (by kernel_rfl) (fun _ _ _ h => h) (Or.inl ⟨by rfl, ?_⟩) (by assumption) ?_
  rotate_left
  · (intro w hSw; have q0 := (hSw.cell (p := ⟨db, 4, none⟩) HDQ.out.lt).trans (HDQ.out.cell 4); simp only [List.getElem?_cons_zero, List.getElem?_cons_succ] at q0; go_simp; try with_reducible rfl)
  try simp only [List.getElem_toArray, List.getElem_cons_succ, List.getElem_cons_zero, Act.put, List.setIfInBounds_toArray, List.set_cons_zero, List.set_cons_succ]
  refine wpAnyH_take (i := 36) (v := ?_) rfl (by kernel_rfl) (by kernel_rfl) (by kernel_rfl) (fun _ _ _ h => h) (Or.inl ⟨by rfl, ?_⟩) (by assumption) ?_
  rotate_left
  · (intro w hSw; go_simp; try with_reducible rfl)
  try simp only [List.getElem_toArray, List.getElem_cons_succ, List.getElem_cons_zero, Act.put, List.setIfInBounds_toArray, List.set_cons_zero, List.set_cons_succ]
  refine wpAnyH_take (i := 37) (v := ?_) rfl (by kernel_rfl) (by kernel_rfl) (by kernel_rfl) (fun _ _ _ h => h) (Or.inl ⟨by rfl, ?_⟩) (by assumption) ?_
  rotate_left
  · (intro w hSw; have q0 := (hSw.cell (p := ⟨db, 5, none⟩) HDQ.out.lt).trans (HDQ.out.cell 5); simp only [List.getElem?_cons_zero, List.getElem?_cons_succ] at q0; go_simp; try with_reducible rfl)
  try simp only [List.getElem_toArray, List.getElem_cons_succ, List.getElem_cons_zero, Act.put, List.setIfInBounds_toArray, List.set_cons_zero, List.set_cons_succ]
  refine wpAnyH_ready (rs := [0]) (by kernel_rfl) (by simp) ?_
  refine AllReadyH.cons rfl (fun K hK => ?_) AllReadyH.nil
  rw [if_pos (by rfl)]
  simp only [List.getElem_toArray, List.getElem_cons_succ, List.getElem_cons_zero]
  go_simp
  go_at_call 72
  refine (weekdays_any _).mono ?_
  rintro e wc1 ⟨rfl, hw⟩
  obtain ⟨wbW, hwbW⟩ : ∃ b, b = wq.heap.size := ⟨_, rfl⟩
  rw [← hwbW]
  have hnew : Blk wc1 wbW 9 [.string ⟨#[77, 111, 110]⟩, .string ⟨#[84, 117, 101]⟩, .string ⟨#[87, 101, 100]⟩, .string ⟨#[84, 104, 117]⟩, .string ⟨#[70, 114, 105]⟩, .string ⟨#[83, 97, 116]⟩, .string ⟨#[83, 117, 110]⟩] := by rw [hw, hwbW]; exact Blk.new _ _ _
  have hb : Below wq.heap.size wq wc1 := by rw [hw]; exact (Below.refl _ _).alloc (Nat.le_refl _) _
  have HNW := Lib.hid hnew
  clear hw hnew hwbW
  show K _ wc1
  refine hK.out _ _ hb (fun hHeld0 => ?_)
  clear hK K hHeld hHeld0
  refine heldMono (S' := fun w' => Below wc1.heap.size wc1 w') (fun w' h => ext_trans hb h) _ _ _ _ ?_
  have hHeld : Below wc1.heap.size wc1 wc1 := Below.refl _ _
  have B2 := Lib.hid (ext_trans HBQ.out hb)
  have HK3 := Lib.hid (HDQ.out.same (same_below hb) HDQ.out.lt)
  clear hb
  try simp only [List.getElem_toArray, List.getElem_cons_succ, List.getElem_cons_zero, Act.put, List.setIfInBounds_toArray, List.set_cons_zero, List.set_cons_succ]
  refine wpAnyH_take (i := 5) (v := .pointer (some ⟨wbW, 3, none⟩)) rfl (by kernel_rfl) (by kernel_rfl) (by kernel_rfl) (fun _ _ _ h => h) (Or.inl ⟨by rfl, ?_⟩) (by assumption) ?_
  · (intro w hSw; go_simp <;> (first | rfl | (rw [if_pos (by decide)]; rfl)))
  try simp only [List.getElem_toArray, List.getElem_cons_succ, List.getElem_cons_zero, Act.put, List.setIfInBounds_toArray, List.set_cons_zero, List.set_cons_succ]
  refine wpAnyH_take (i := 6) (v := ?_) rfl (by kernel_rfl) (by kernel_rfl) (by kernel_rfl) (fun _ _ _ h => h) (Or.inl ⟨by rfl, ?_⟩) (by assumption) ?_
  rotate_left
  · (intro w hSw; have q0 := (hSw.cell (p := ⟨wbW, 3, none⟩) HNW.out.lt).trans (HNW.out.cell 3); simp only [List.getElem?_cons_zero, List.getElem?_cons_succ] at q0; go_simp; try with_reducible rfl)
  try simp only [List.getElem_toArray, List.getElem_cons_succ, List.getElem_cons_zero, Act.put, List.setIfInBounds_toArray, List.set_cons_zero, List.set_cons_succ]
  refine wpAnyH_take (i := 7) (v := .string ⟨#[84, 104, 117, 44, 32]⟩) rfl (by kernel_rfl) (by kernel_rfl) (by kernel_rfl) (fun _ _ _ h => h) (Or.inl ⟨by rfl, ?_⟩) (by assumption) ?_
  · (intro w hSw; go_simp <;> (first | rfl | (rw [if_neg (by decide)]; rfl) | trace_state))
  try simp only [List.getElem_toArray, List.getElem_cons_succ, List.getElem_cons_zero, Act.put, List.setIfInBounds_toArray, List.set_cons_zero, List.set_cons_succ]
  refine wpAnyH_ready (rs := [10]) (by kernel_rfl) (by simp) ?_
  refine AllReadyH.cons rfl (fun K hK => ?_) AllReadyH.nil
  rw [if_pos (by rfl)]
  simp only [List.getElem_toArray, List.getElem_cons_succ, List.getElem_cons_zero]
  go_simp
  go_at_call 73
  refine (pad_01 _ (HT.out.ext B2.out)).mono ?_
  rintro e wc4 ⟨rfl, hb⟩
  show K _ wc4
  refine hK.out _ _ hb (fun hHeld0 => ?_)
  clear hK K hHeld hHeld0
  refine heldMono (S' := fun w' => Below wc4.heap.size wc4 w') (fun w' h => ext_trans hb h) _ _ _ _ ?_
  have hHeld : Below wc4.heap.size wc4 wc4 := Below.refl _ _
  have B5 := Lib.hid (ext_trans B2.out hb)
  have HK6 := Lib.hid (HK3.out.same (same_below hb) HK3.out.lt)
  have HK7 := Lib.hid (HNW.out.same (same_below hb) HNW.out.lt)
  clear hb
  try simp only [List.getElem_toArray, List.getElem_cons_succ, List.getElem_cons_zero, Act.put, List.setIfInBounds_toArray, List.set_cons_zero, List.set_cons_succ]
  refine wpAnyH_take (i := 11) (v := .string ⟨#[84, 104, 117, 44, 32, 48, 49]⟩) rfl (by kernel_rfl) (by kernel_rfl) (by kernel_rfl) (fun _ _ _ h => h) (Or.inl ⟨by rfl, ?_⟩) (by assumption) ?_
  · (intro w hSw; go_simp <;> (first | rfl | (rw [if_neg (by decide)]; rfl) | trace_state))
  try simp only [List.getElem_toArray, List.getElem_cons_succ, List.getElem_cons_zero, Act.put, List.setIfInBounds_toArray, List.set_cons_zero, List.set_cons_succ]
  refine wpAnyH_take (i := 12) (v := .string ⟨#[84, 104, 117, 44, 32, 48, 49, 32]⟩) rfl (by kernel_rfl) (by kernel_rfl) (by kernel_rfl) (fun _ _ _ h => h) (Or.inl ⟨by rfl, ?_⟩) (by assumption) ?_
  · (intro w hSw; go_simp <;> (first | rfl | (rw [if_neg (by decide)]; rfl) | trace_state))
  try simp only [List.getElem_toArray, List.getElem_cons_succ, List.getElem_cons_zero, Act.put, List.setIfInBounds_toArray, List.set_cons_zero, List.set_cons_succ]
  refine wpAnyH_ready (rs := [13]) (by kernel_rfl) (by simp) ?_
  refine AllReadyH.cons rfl (fun K hK => ?_) AllReadyH.nil
  rw [if_pos (by rfl)]
  simp only [List.getElem_toArray, List.getElem_cons_succ, List.getElem_cons_zero]
  go_simp
  go_at_call 74
  refine (months_any _).mono ?_
  rintro e wc8 ⟨rfl, hw⟩
  obtain ⟨wbM, hwbM⟩ : ∃ b, b = wc4.heap.size := ⟨_, rfl⟩
  rw [← hwbM]
  have hnew : Blk wc8 wbM 9 [.string ⟨#[74, 97, 110]⟩, .string ⟨#[70, 101, 98]⟩, .string ⟨#[77, 97, 114]⟩, .string ⟨#[65, 112, 114]⟩, .string ⟨#[77, 97, 121]⟩, .string ⟨#[74, 117, 110]⟩, .string ⟨#[74, 117, 108]⟩, .string ⟨#[65, 117, 103]⟩, .string ⟨#[83, 101, 112]⟩, .string ⟨#[79, 99, 116]⟩, .string ⟨#[78, 111, 118]⟩, .string ⟨#[68, 101, 99]⟩] := by rw [hw, hwbM]; exact Blk.new _ _ _
  have hb : Below wc4.heap.size wc4 wc8 := by rw [hw]; exact (Below.refl _ _).alloc (Nat.le_refl _) _
  have HNM := Lib.hid hnew
  clear hw hnew hwbM
  show K _ wc8
  refine hK.out _ _ hb (fun hHeld0 => ?_)
  clear hK K hHeld hHeld0
  refine heldMono (S' := fun w' => Below wc8.heap.size wc8 w') (fun w' h => ext_trans hb h) _ _ _ _ ?_
  have hHeld : Below wc8.heap.size wc8 wc8 := Below.refl _ _
  have B9 := Lib.hid (ext_trans B5.out hb)
  have HK10 := Lib.hid (HK6.out.same (same_below hb) HK6.out.lt)
  have HK11 := Lib.hid (HK7.out.same (same_below hb) HK7.out.lt)
  clear hb
  try simp only [List.getElem_toArray, List.getElem_cons_succ, List.getElem_cons_zero, Act.put, List.setIfInBounds_toArray, List.set_cons_zero, List.set_cons_succ]
  refine wpAnyH_take (i := 17) (v := .pointer (some ⟨wbM, 0, none⟩)) rfl (by kernel_rfl) (by kernel_rfl) (by kernel_rfl) (fun _ _ _ h => h) (Or.inl ⟨by rfl, ?_⟩) (by assumption) ?_
  · (intro w hSw; go_simp <;> (first | rfl | (rw [if_pos (by decide)]; rfl)))
  try simp only [List.getElem_toArray, List.getElem_cons_succ, List.getElem_cons_zero, Act.put, List.setIfInBounds_toArray, List.set_cons_zero, List.set_cons_succ]
  refine wpAnyH_take (i := 18) (v := ?_) rfl (by kernel_rfl) (by kernel_rfl) (by kernel_rfl) (fun _ _ _ h => h) (Or.inl ⟨by rfl, ?_⟩) (by assumption) ?_
  rotate_left
  · (intro w hSw; have q0 := (hSw.cell (p := ⟨wbM, 0, none⟩) HNM.out.lt).trans (HNM.out.cell 0); simp only [List.getElem?_cons_zero, List.getElem?_cons_succ] at q0; go_simp; try with_reducible rfl)
  try simp only [List.getElem_toArray, List.getElem_cons_succ, List.getElem_cons_zero, Act.put, List.setIfInBounds_toArray, List.set_cons_zero, List.set_cons_succ]
  refine wpAnyH_take (i := 19) (v := .string ⟨#[84, 104, 117, 44, 32, 48, 49, 32, 74, 97, 110]⟩) rfl (by kernel_rfl) (by kernel_rfl) (by kernel_rfl) (fun _ _ _ h => h) (Or.inl ⟨by rfl, ?_⟩) (by assumption) ?_
  · (intro w hSw; go_simp <;> (first | rfl | (rw [if_neg (by decide)]; rfl) | trace_state))
  try simp only [List.getElem_toArray, List.getElem_cons_succ, List.getElem_cons_zero, Act.put, List.setIfInBounds_toArray, List.set_cons_zero, List.set_cons_succ]
  refine wpAnyH_take (i := 20) (v := .string ⟨#[84, 104, 117, 44, 32, 48, 49, 32, 74, 97, 110, 32]⟩) rfl (by kernel_rfl) (by kernel_rfl) (by kernel_rfl) (fun _ _ _ h => h) (Or.inl ⟨by rfl, ?_⟩) (by assumption) ?_
  · (intro w hSw; go_simp <;> (first | rfl | (rw [if_neg (by decide)]; rfl) | trace_state))
  try simp only [List.getElem_toArray, List.getElem_cons_succ, List.getElem_cons_zero, Act.put, List.setIfInBounds_toArray, List.set_cons_zero, List.set_cons_succ]
  refine wpAnyH_ready (rs := [23]) (by kernel_rfl) (by simp) ?_
  refine AllReadyH.cons rfl (fun K hK => ?_) AllReadyH.nil
  rw [if_pos (by rfl)]
  simp only [List.getElem_toArray, List.getElem_cons_succ, List.getElem_cons_zero]
  go_simp
  go_at_call 73
  refine (pad_1970 _ (HT.out.ext B9.out)).mono ?_
  rintro e wc12 ⟨rfl, hb⟩
  show K _ wc12
  refine hK.out _ _ hb (fun hHeld0 => ?_)
  clear hK K hHeld hHeld0
  refine heldMono (S' := fun w' => Below wc12.heap.size wc12 w') (fun w' h => ext_trans hb h) _ _ _ _ ?_
  have hHeld : Below wc12.heap.size wc12 wc12 := Below.refl _ _
  have B13 := Lib.hid (ext_trans B9.out hb)
  have HK14 := Lib.hid (HK10.out.same (same_below hb) HK10.out.lt)
  have HK15 := Lib.hid (HK11.out.same (same_below hb) HK11.out.lt)
  have HK16 := Lib.hid (HNM.out.same (same_below hb) HNM.out.lt)
  clear hb
  try simp only [List.getElem_toArray, List.getElem_cons_succ, List.getElem_cons_zero, Act.put, List.setIfInBounds_toArray, List.set_cons_zero, List.set_cons_succ]
  refine wpAnyH_take (i := 24) (v := .string ⟨#[84, 104, 117, 44, 32, 48, 49, 32, 74, 97, 110, 32, 49, 57, 55, 48]⟩) rfl (by kernel_rfl) (by kernel_rfl) (by kernel_rfl) (fun _ _ _ h => h) (Or.inl ⟨by rfl, ?_⟩) (by assumption) ?_
  · (intro w hSw; go_simp <;> (first | rfl | (rw [if_neg (by decide)]; rfl) | trace_state))
  try simp only [List.getElem_toArray, List.getElem_cons_succ, List.getElem_cons_zero, Act.put, List.setIfInBounds_toArray, List.set_cons_zero, List.set_cons_succ]
  refine wpAnyH_take (i := 25) (v := .string ⟨#[84, 104, 117, 44, 32, 48, 49, 32, 74, 97, 110, 32, 49, 57, 55, 48, 32]⟩) rfl (by kernel_rfl) (by kernel_rfl) (by kernel_rfl) (fun _ _ _ h => h) (Or.inl ⟨by rfl, ?_⟩) (by assumption) ?_
  · (intro w hSw; go_simp <;> (first | rfl | (rw [if_neg (by decide)]; rfl) | trace_state))
  try simp only [List.getElem_toArray, List.getElem_cons_succ, List.getElem_cons_zero, Act.put, List.setIfInBounds_toArray, List.set_cons_zero, List.set_cons_succ]
  refine wpAnyH_ready (rs := [28]) (by kernel_rfl) (by simp) ?_
  refine AllReadyH.cons rfl (fun K hK => ?_) AllReadyH.nil
  rw [if_pos (by rfl)]
  simp only [List.getElem_toArray, List.getElem_cons_succ, List.getElem_cons_zero]
  go_simp
  go_at_call 73
  refine (pad_00 _ (HT.out.ext B13.out)).mono ?_
  rintro e wc17 ⟨rfl, hb⟩
  show K _ wc17
  refine hK.out _ _ hb (fun hHeld0 => ?_)
  clear hK K hHeld hHeld0
  refine heldMono (S' := fun w' => Below wc17.heap.size wc17 w') (fun w' h => ext_trans hb h) _ _ _ _ ?_
  have hHeld : Below wc17.heap.size wc17 wc17 := Below.refl _ _
  have B18 := Lib.hid (ext_trans B13.out hb)
  have HK19 := Lib.hid (HK14.out.same (same_below hb) HK14.out.lt)
  have HK20 := Lib.hid (HK15.out.same (same_below hb) HK15.out.lt)
  have HK21 := Lib.hid (HK16.out.same (same_below hb) HK16.out.lt)
  clear hb
  try simp only [List.getElem_toArray, List.getElem_cons_succ, List.getElem_cons_zero, Act.put, List.setIfInBounds_toArray, List.set_cons_zero, List.set_cons_succ]
  refine wpAnyH_take (i := 29) (v := .string ⟨#[84, 104, 117, 44, 32, 48, 49, 32, 74, 97, 110, 32, 49, 57, 55, 48, 32, 48, 48]⟩) rfl (by kernel_rfl) (by kernel_rfl) (by kernel_rfl) (fun _ _ _ h => h) (Or.inl ⟨by rfl, ?_⟩) (by assumption) ?_
  · (intro w hSw; go_simp <;> (first | rfl | (rw [if_neg (by decide)]; rfl) | trace_state))
  try simp only [List.getElem_toArray, List.getElem_cons_succ, List.getElem_cons_zero, Act.put, List.setIfInBounds_toArray, List.set_cons_zero, List.set_cons_succ]
  refine wpAnyH_take (i := 30) (v := .string ⟨#[84, 104, 117, 44, 32, 48, 49, 32, 74, 97, 110, 32, 49, 57, 55, 48, 32, 48, 48, 58]⟩) rfl (by kernel_rfl) (by kernel_rfl) (by kernel_rfl) (fun _ _ _ h => h) (Or.inl ⟨by rfl, ?_⟩) (by assumption) ?_
  · (intro w hSw; go_simp <;> (first | rfl | (rw [if_neg (by decide)]; rfl) | trace_state))
  try simp only [List.getElem_toArray, List.getElem_cons_succ, List.getElem_cons_zero, Act.put, List.setIfInBounds_toArray, List.set_cons_zero, List.set_cons_succ]
  refine wpAnyH_ready (rs := [33]) (by kernel_rfl) (by simp) ?_
  refine AllReadyH.cons rfl (fun K hK => ?_) AllReadyH.nil
  rw [if_pos (by rfl)]
  simp only [List.getElem_toArray, List.getElem_cons_succ, List.getElem_cons_zero]
  go_simp
  go_at_call 73
  refine (pad_00 _ (HT.out.ext B18.out)).mono ?_
  rintro e wc22 ⟨rfl, hb⟩
  show K _ wc22
  refine hK.out _ _ hb (fun hHeld0 => ?_)
  clear hK K hHeld hHeld0
  refine heldMono (S' := fun w' => Below wc22.heap.size wc22 w') (fun w' h => ext_trans hb h) _ _ _ _ ?_
  have hHeld : Below wc22.heap.size wc22 wc22 := Below.refl _ _
  have B23 := Lib.hid (ext_trans B18.out hb)
  have HK24 := Lib.hid (HK19.out.same (same_below hb) HK19.out.lt)
  have HK25 := Lib.hid (HK20.out.same (same_below hb) HK20.out.lt)
  have HK26 := Lib.hid (HK21.out.same (same_below hb) HK21.out.lt)
  clear hb
  try simp only [List.getElem_toArray, List.getElem_cons_succ, List.getElem_cons_zero, Act.put, List.setIfInBounds_toArray, List.set_cons_zero, List.set_cons_succ]
  refine wpAnyH_take (i := 34) (v := .string ⟨#[84, 104, 117, 44, 32, 48, 49, 32, 74, 97, 110, 32, 49, 57, 55, 48, 32, 48, 48, 58, 48, 48]⟩) rfl (by kernel_rfl) (by kernel_rfl) (by kernel_rfl) (fun _ _ _ h => h) (Or.inl ⟨by rfl, ?_⟩) (by assumption) ?_
  · (intro w hSw; go_simp <;> (first | rfl | (rw [if_neg (by decide)]; rfl) | trace_state))
  try simp only [List.getElem_toArray, List.getElem_cons_succ, List.getElem_cons_zero, Act.put, List.setIfInBounds_toArray, List.set_cons_zero, List.set_cons_succ]
  refine wpAnyH_take (i := 35) (v := .string ⟨#[84, 104, 117, 44, 32, 48, 49, 32, 74, 97, 110, 32, 49, 57, 55, 48, 32, 48, 48, 58, 48, 48, 58]⟩) rfl (by kernel_rfl) (by kernel_rfl) (by kernel_rfl) (fun _ _ _ h => h) (Or.inl ⟨by rfl, ?_⟩) (by assumption) ?_
  · (intro w hSw; go_simp <;> (first | rfl | (rw [if_neg (by decide)]; rfl) | trace_state))
  try simp only [List.getElem_toArray, List.getElem_cons_succ, List.getElem_cons_zero, Act.put, List.setIfInBounds_toArray, List.set_cons_zero, List.set_cons_succ]
  refine wpAnyH_ready (rs := [38]) (by kernel_rfl) (by simp) ?_
  refine AllReadyH.cons rfl (fun K hK => ?_) AllReadyH.nil
  rw [if_pos (by rfl)]
  simp only [List.getElem_toArray, List.getElem_cons_succ, List.getElem_cons_zero]
  go_simp
  go_at_call 73
  refine (pad_00 _ (HT.out.ext B23.out)).mono ?_
  rintro e wc27 ⟨rfl, hb⟩
  show K _ wc27
  refine hK.out _ _ hb (fun hHeld0 => ?_)
  clear hK K hHeld hHeld0
  refine heldMono (S' := fun w' => Below wc27.heap.size wc27 w') (fun w' h => ext_trans hb h) _ _ _ _ ?_
  have hHeld : Below wc27.heap.size wc27 wc27 := Below.refl _ _
  have B28 := Lib.hid (ext_trans B23.out hb)
  have HK29 := Lib.hid (HK24.out.same (same_below hb) HK24.out.lt)
  have HK30 := Lib.hid (HK25.out.same (same_below hb) HK25.out.lt)
  have HK31 := Lib.hid (HK26.out.same (same_below hb) HK26.out.lt)
  clear hb
  try simp only [List.getElem_toArray, List.getElem_cons_succ, List.getElem_cons_zero, Act.put, List.setIfInBounds_toArray, List.set_cons_zero, List.set_cons_succ]
  refine wpAnyH_take (i := 39) (v := .string ⟨#[84, 104, 117, 44, 32, 48, 49, 32, 74, 97, 110, 32, 49, 57, 55, 48, 32, 48, 48, 58, 48, 48, 58, 48, 48]⟩) rfl (by kernel_rfl) (by kernel_rfl) (by kernel_rfl) (fun _ _ _ h => h) (Or.inl ⟨by rfl, ?_⟩) (by assumption) ?_
  · (intro w hSw; go_simp <;> (first | rfl | (rw [if_neg (by decide)]; rfl) | trace_state))
  try simp only [List.getElem_toArray, List.getElem_cons_succ, List.getElem_cons_zero, Act.put, List.setIfInBounds_toArray, List.set_cons_zero, List.set_cons_succ]
  refine wpAnyH_take (i := 40) (v := .string ⟨#[84, 104, 117, 44, 32, 48, 49, 32, 74, 97, 110, 32, 49, 57, 55, 48, 32, 48, 48, 58, 48, 48, 58, 48, 48, 32, 71, 77, 84]⟩) rfl (by kernel_rfl) (by kernel_rfl) (by kernel_rfl) (fun _ _ _ h => h) (Or.inl ⟨by rfl, ?_⟩) (by assumption) ?_
  · (intro w hSw; go_simp <;> (first | rfl | (rw [if_neg (by decide)]; rfl) | trace_state))
  try simp only [List.getElem_toArray, List.getElem_cons_succ, List.getElem_cons_zero, Act.put, List.setIfInBounds_toArray, List.set_cons_zero, List.set_cons_succ]
  refine wpAnyH_take (i := 41) (v := ?_) rfl (by kernel_rfl) (by kernel_rfl) (by kernel_rfl) (fun _ _ _ h => h) (Or.inl ⟨by rfl, ?_⟩) (by assumption) ?_
  rotate_left
  · (intro w hSw; go_simp; try with_reducible rfl)
  try simp only [List.getElem_toArray, List.getElem_cons_succ, List.getElem_cons_zero, Act.put, List.setIfInBounds_toArray, List.set_cons_zero, List.set_cons_succ]
  refine wpAnyH_done (by kernel_rfl) ?_ _
  clear hHeld
  go_wp2_with fail
  go_ret
  exact ⟨rfl, B28.out⟩
set_option maxRecDepth 100000 in
set_option maxHeartbeats 2000000 in
theorem isMoment_0 (w : World) : Calls Tryz.prog 43 #[.int .i64 0] w fun e w' => e = .returned (.bool true) ∧ w' = w := by
  go_enter Tryz.func43, Tryz.ntmps43
  go_wp2_with fail
  go_ret
  exact ⟨rfl, rfl⟩
set_option maxRecDepth 100000 in
set_option maxHeartbeats 2000000 in
theorem dateTop_0 (w : World) (hT : TI w) : Calls Tryz.prog 17 #[.int .i64 0] w fun e w' => e = .returned (.tuple #[.string ⟨#[84, 104, 117, 44, 32, 48, 49, 32, 74, 97, 110, 32, 49, 57, 55, 48, 32, 48, 48, 58, 48, 48, 58, 48, 48, 32, 71, 77, 84]⟩, .int .i64 0]) ∧ Below w.heap.size w w' := by
  have HT := Lib.hid hT
  clear hT
  go_enter Tryz.func17, Tryz.ntmps17
  go_wp2_with fail
  refine (isMoment_0 w).mono ?_
  rintro e w1 ⟨rfl, hw1⟩
  subst hw1
  go_wp2_with fail
  refine (dateText_0 _ HT.out).mono ?_
  rintro e w2 ⟨rfl, hb2⟩
  have HB2 := Lib.hid hb2
  clear hb2
  go_wp2_with fail
  go_ret2
  exact ⟨rfl, HB2.out⟩
set_option maxRecDepth 100000 in
set_option maxHeartbeats 2000000 in
theorem alive_any (w : World) (hT : TI w) : Calls Tryz.prog 6 #[] w fun e w' => e = .returned (.bool true) ∧ Below w.heap.size w w' := by
  have HT := Lib.hid hT
  clear hT
  go_enter Tryz.func6, Tryz.ntmps6
  go_wp2_with fail
  refine (dateTop_0 w HT.out).mono ?_
  rintro e w1 ⟨rfl, hb1⟩
  have HB1 := Lib.hid hb1
  clear hb1
  go_wp2_with fail
  have hp := hasPre_any [84, 104, 117, 44, 32, 48, 49, 32, 74, 97, 110, 32, 49, 57, 55, 48, 32, 48, 48, 58, 48, 48, 58, 48, 48, 32, 71, 77, 84] [84, 104, 117, 44, 32, 48, 49, 32, 74, 97, 110, 32, 49, 57, 55, 48] w1 (by decide)
  rw [show preB [84, 104, 117, 44, 32, 48, 49, 32, 74, 97, 110, 32, 49, 57, 55, 48, 32, 48, 48, 58, 48, 48, 58, 48, 48, 32, 71, 77, 84] [84, 104, 117, 44, 32, 48, 49, 32, 74, 97, 110, 32, 49, 57, 55, 48] = true by decide] at hp
  refine hp.mono ?_
  clear hp
  rintro e w2 ⟨rfl, hw2⟩
  subst hw2
  go_wp2_with fail
  have hd := digest_any (.slice none 0 0) [] w2 (fun _ => False) (Rp.sl_nil _ _ _)
  rw [show bstr (hexL (fnv []) 16) = ⟨#[99, 98, 102, 50, 57, 99, 101, 52, 56, 52, 50, 50, 50, 51, 50, 53]⟩ from by rfl] at hd
  refine hd.mono ?_
  clear hd
  rintro e w3 ⟨rfl, hb3⟩
  have HB3 := Lib.hid (ext_trans HB1.out hb3)
  clear hb3
  go_wp2_with fail
  go_ret
  exact ⟨rfl, HB3.out⟩
end Go.Proofs.YtpmonhilfpfiaaaGreatDoor
