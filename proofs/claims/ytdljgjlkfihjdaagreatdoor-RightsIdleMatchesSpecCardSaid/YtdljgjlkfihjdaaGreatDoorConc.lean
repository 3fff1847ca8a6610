/-
  'Concerns' of package rights and of the reference of chapter 10.
-/
import Derived.Test.YtdljgjlkfihjdaaGreatDoorNear10
namespace Go.Proofs.YtdljgjlkfihjdaaGreatDoor
open Go.RowKit
set_option linter.unusedVariables false
set_option linter.unusedSimpArgs false

structure Cap where
  key : List UInt8
  time : Int
deriving Inhabited
def capCells (x : Cap) : List Value := [.string (bstr x.key), .int .i64 x.time]
def capRp : Rp Cap := (Rp.pair Rp.str (Rp.int .i64)).via fun r => (bstr r.key, r.time)
theorem cap_open {w : World} {S : Nat → Prop} {us : List Value} {c : Cap} (h : capRp.ok w S us c) : us = capCells c ∧ c.key.length ≤ maxLen ∧ (Lit.int .i64 c.time).wf = true := by
  obtain ⟨_, _, rfl, ⟨rfl, h1⟩, ⟨rfl, h2⟩⟩ := h
  exact ⟨rfl, h1, h2⟩
theorem opens_cap : Opens Tryz.prog 25 capRp := by
  refine opens_via _ (fun (p : ByteArray × Int) => ⟨p.1.data.toList, p.2⟩) (fun p => by rw [bstr_eq]) ?_
  refine opens_struct Tryz.underlying25 (by kernel_rfl) ?_
  refine opensF_cons (by rfl) (by kernel_rfl) (opens_str Tryz.underlying9) ?_
  exact opensF_one (by rfl) (by kernel_rfl) (opens_int Tryz.underlying3)
def preB (t p : List UInt8) : Bool := decide (p.length ≤ t.length) && decide (t.take p.length = p)
def capF (c : Cap) : Int := if c.key = [] then 3 else if isPre c.key = false then 3 else if withinB c.time 0 253402300799 = false then 1 else 0
def aboutB (r : Rgt) (c : Cap) : Bool := preB c.key r.pre && (decide (r.frm ≤ c.time) && decide (c.time < r.to))
def fromI (r : Rgt) : Int := max r.st r.made
def concB (r : Rgt) (c : Cap) (at_ : Int) : Bool := aboutB r c && (decide (fromI r ≤ at_) && decide (at_ < r.en))
def concTop (r : Rgt) (c : Cap) (at_ : Int) : Bool × Int := if rgF r ≠ 0 then (false, rgF r) else if capF c ≠ 0 then (false, capF c) else if withinB at_ 0 253402300799 = false then (false, 1) else (concB r c at_, 0)
set_option maxRecDepth 100000 in
set_option maxHeartbeats 1000000 in
theorem hasPre0_any (t p : List UInt8) (w : World) (ht : t.length ≤ 9223372036854775807) :
    Calls Tryz.prog 46 #[.string (bstr t), .string (bstr p)] w fun e w' => e = .returned (.bool (preB t p)) ∧ w' = w := by
  have hs1 : (bstr t).size = t.length := rfl
  have hs2 : (bstr p).size = p.length := rfl
  by_cases h : p.length ≤ t.length
  · have h' : (p.length : Int) ≤ (t.length : Int) := by omega
    have hx : (bstr t).extract 0 p.length = bstr (t.take p.length) := extract_head t p.length
    by_cases he : t.take p.length = p
    · have hb : ((bstr (t.take p.length)).toList == (bstr p).toList) = true := str_beq (by rw [he])
      have HF : Hid (preB t p = true) := Lib.hid (by unfold preB; rw [decide_eq_true h, decide_eq_true he]; rfl)
      clear he
      go_enter Tryz.func46, Tryz.ntmps46
      go_wp2_with fail
      go_ret
      exact ⟨by rw [HF.out]; rfl, rfl⟩
    · have hb : ((bstr (t.take p.length)).toList == (bstr p).toList) = false := str_bne (fun e => he (bstr_inj e))
      have HF : Hid (preB t p = false) := Lib.hid (by unfold preB; rw [decide_eq_false he, Bool.and_false])
      clear he
      go_enter Tryz.func46, Tryz.ntmps46
      go_wp2_with fail
      go_ret
      exact ⟨by rw [HF.out]; rfl, rfl⟩
  · have h' : ¬ (p.length : Int) ≤ (t.length : Int) := by omega
    have HF : Hid (preB t p = false) := Lib.hid (by unfold preB; rw [decide_eq_false h]; rfl)
    go_enter Tryz.func46, Tryz.ntmps46
    go_wp2_with fail
    go_ret
    exact ⟨by rw [HF.out]; rfl, rfl⟩
set_option maxRecDepth 100000 in
set_option maxHeartbeats 1000000 in
theorem hasPre_any (t p : List UInt8) (w : World) (ht : t.length ≤ 9223372036854775807) :
    Calls Tryz.prog 24 #[.string (bstr t), .string (bstr p)] w fun e w' => e = .returned (.bool (preB t p)) ∧ w' = w := by
  go_enter Tryz.func24, Tryz.ntmps24
  go_wp2_with fail
  refine (hasPre0_any t p w ht).mono ?_
  rintro e w1 ⟨rfl, rfl⟩
  generalize hq : preB t p = q
  have HQ := Lib.hid hq
  clear hq
  go_wp2_with fail
  go_ret
  exact ⟨by rw [HQ.out]; rfl, rfl⟩
set_option maxRecDepth 100000 in
set_option maxHeartbeats 1000000 in
theorem capture_any (c : Cap) (w : World) (hk : c.key.length ≤ 9223372036854775807) : Calls Tryz.prog 36 #[.agg #[.string (bstr c.key), .int .i64 c.time]] w fun e w' => e = .returned (.int .i64 (capF c)) ∧ Below w.heap.size w w' := by
  have HB := Lib.hid ((Below.refl w.heap.size w).alloc (Nat.le_refl _) (.cells #[.string (bstr c.key), .int .i64 c.time] 25))
  have hkb := Blk.new w 25 (capCells c)
  have m0 : (w.alloc (.cells #[.string (bstr c.key), .int .i64 c.time] 25)).cell? ⟨w.heap.size, 0, none⟩ = some (.string (bstr c.key)) := hkb.cell 0
  have m1 : (w.alloc (.cells #[.string (bstr c.key), .int .i64 c.time] 25)).cell? ⟨w.heap.size, 1, none⟩ = some (.int .i64 c.time) := hkb.cell 1
  clear hkb
  by_cases h0 : c.key = []
  · have he : (bstr c.key).toList.isEmpty = true := by rw [h0, bstr_toList]; rfl
    have HF : Hid (capF c = 3) := Lib.hid (if_pos h0)
    clear h0
    go_enter Tryz.func36, Tryz.ntmps36
    go_wp2_with fail
    go_ret
    exact ⟨by rw [HF.out]; rfl, HB.out⟩
  have he : (bstr c.key).toList.isEmpty = false := by
    rw [bstr_toList]; cases hq : c.key with | nil => exact absurd hq h0 | cons _ _ => rfl
  have HR : Hid (capF c = if isPre c.key = false then 3 else if withinB c.time 0 253402300799 = false then 1 else 0) := Lib.hid (if_neg h0)
  clear h0
  go_enter Tryz.func36, Tryz.ntmps36
  go_wp2_with fail
  generalize w.alloc (.cells #[.string (bstr c.key), .int .i64 c.time] 25) = wA at *
  refine (isPre_any c.key _ hk).mono ?_
  rintro e w1 ⟨rfl, rfl⟩
  cases q1 : isPre c.key with
  | false =>
    have HF : Hid (capF c = 3) := Lib.hid (HR.out.trans (if_pos q1))
    clear q1
    go_wp2_with fail
    go_ret
    exact ⟨by rw [HF.out]; rfl, HB.out⟩
  | true =>
  have HR2 : Hid (capF c = if withinB c.time 0 253402300799 = false then 1 else 0) := Lib.hid (HR.out.trans (if_neg (by rw [q1]; decide)))
  clear q1
  go_wp2_with fail
  refine (moment_any c.time _).mono ?_
  rintro e w1 ⟨rfl, rfl⟩
  cases q2 : withinB c.time 0 253402300799 with
  | false =>
    have HF : Hid (capF c = 1) := Lib.hid (HR2.out.trans (if_pos q2))
    clear q2
    go_wp2_with fail
    go_ret
    exact ⟨by rw [HF.out]; rfl, HB.out⟩
  | true =>
    have HF : Hid (capF c = 0) := Lib.hid (HR2.out.trans (if_neg (by rw [q2]; decide)))
    clear q2
    go_wp2_with fail
    go_ret
    exact ⟨by rw [HF.out]; rfl, HB.out⟩
set_option maxRecDepth 100000 in
set_option maxHeartbeats 1000000 in
theorem about_any (r : Rgt) (c : Cap) (w : World) (hk : c.key.length ≤ 9223372036854775807) : Calls Tryz.prog 65 #[.agg #[.string (bstr r.id), .string (bstr r.pre), .int .i64 r.frm, .int .i64 r.to, .int .i64 r.st, .int .i64 r.en, .int .i64 r.made, .int .i64 r.kind, .string (bstr r.team)], .agg #[.string (bstr c.key), .int .i64 c.time]] w fun e w' => e = .returned (.bool (aboutB r c)) ∧ Below w.heap.size w w' := by
  have hl1 := (Below.refl w.heap.size w).alloc (Nat.le_refl _) (.cells #[.string (bstr r.id), .string (bstr r.pre), .int .i64 r.frm, .int .i64 r.to, .int .i64 r.st, .int .i64 r.en, .int .i64 r.made, .int .i64 r.kind, .string (bstr r.team)] 38)
  have hl2 := (Below.refl (w.alloc (.cells #[.string (bstr r.id), .string (bstr r.pre), .int .i64 r.frm, .int .i64 r.to, .int .i64 r.st, .int .i64 r.en, .int .i64 r.made, .int .i64 r.kind, .string (bstr r.team)] 38)).heap.size _).alloc (Nat.le_refl _) (.cells #[.string (bstr c.key), .int .i64 c.time] 25)
  have HB := Lib.hid (hl1.trans (hl2.mono (by simp)))
  have hka : Blk ((w.alloc (.cells #[.string (bstr r.id), .string (bstr r.pre), .int .i64 r.frm, .int .i64 r.to, .int .i64 r.st, .int .i64 r.en, .int .i64 r.made, .int .i64 r.kind, .string (bstr r.team)] 38)).alloc (.cells #[.string (bstr c.key), .int .i64 c.time] 25)) w.heap.size 38 (rgtCells r) := (Blk.new w 38 (rgtCells r)).same (same_below hl2) (by simp)
  have hkb : Blk ((w.alloc (.cells #[.string (bstr r.id), .string (bstr r.pre), .int .i64 r.frm, .int .i64 r.to, .int .i64 r.st, .int .i64 r.en, .int .i64 r.made, .int .i64 r.kind, .string (bstr r.team)] 38)).alloc (.cells #[.string (bstr c.key), .int .i64 c.time] 25)) (w.heap.size + 1) 25 (capCells c) := by
    have := Blk.new (w.alloc (.cells #[.string (bstr r.id), .string (bstr r.pre), .int .i64 r.frm, .int .i64 r.to, .int .i64 r.st, .int .i64 r.en, .int .i64 r.made, .int .i64 r.kind, .string (bstr r.team)] 38)) 25 (capCells c)
    rwa [World.size_alloc] at this
  have HKA := Lib.hid hka
  have HKB := Lib.hid hkb
  clear hl1 hl2 hka hkb
  go_enter Tryz.func65, Tryz.ntmps65
  have x0 : ((w.alloc (.cells #[.string (bstr r.id), .string (bstr r.pre), .int .i64 r.frm, .int .i64 r.to, .int .i64 r.st, .int .i64 r.en, .int .i64 r.made, .int .i64 r.kind, .string (bstr r.team)] 38)).alloc (.cells #[.string (bstr c.key), .int .i64 c.time] 25)).cell? ⟨w.heap.size, 0, none⟩ = some (.string (bstr r.id)) := HKA.out.cell 0
  have x1 : ((w.alloc (.cells #[.string (bstr r.id), .string (bstr r.pre), .int .i64 r.frm, .int .i64 r.to, .int .i64 r.st, .int .i64 r.en, .int .i64 r.made, .int .i64 r.kind, .string (bstr r.team)] 38)).alloc (.cells #[.string (bstr c.key), .int .i64 c.time] 25)).cell? ⟨w.heap.size, 1, none⟩ = some (.string (bstr r.pre)) := HKA.out.cell 1
  have x2 : ((w.alloc (.cells #[.string (bstr r.id), .string (bstr r.pre), .int .i64 r.frm, .int .i64 r.to, .int .i64 r.st, .int .i64 r.en, .int .i64 r.made, .int .i64 r.kind, .string (bstr r.team)] 38)).alloc (.cells #[.string (bstr c.key), .int .i64 c.time] 25)).cell? ⟨w.heap.size, 2, none⟩ = some (.int .i64 r.frm) := HKA.out.cell 2
  have x3 : ((w.alloc (.cells #[.string (bstr r.id), .string (bstr r.pre), .int .i64 r.frm, .int .i64 r.to, .int .i64 r.st, .int .i64 r.en, .int .i64 r.made, .int .i64 r.kind, .string (bstr r.team)] 38)).alloc (.cells #[.string (bstr c.key), .int .i64 c.time] 25)).cell? ⟨w.heap.size, 3, none⟩ = some (.int .i64 r.to) := HKA.out.cell 3
  have x4 : ((w.alloc (.cells #[.string (bstr r.id), .string (bstr r.pre), .int .i64 r.frm, .int .i64 r.to, .int .i64 r.st, .int .i64 r.en, .int .i64 r.made, .int .i64 r.kind, .string (bstr r.team)] 38)).alloc (.cells #[.string (bstr c.key), .int .i64 c.time] 25)).cell? ⟨w.heap.size, 4, none⟩ = some (.int .i64 r.st) := HKA.out.cell 4
  have x5 : ((w.alloc (.cells #[.string (bstr r.id), .string (bstr r.pre), .int .i64 r.frm, .int .i64 r.to, .int .i64 r.st, .int .i64 r.en, .int .i64 r.made, .int .i64 r.kind, .string (bstr r.team)] 38)).alloc (.cells #[.string (bstr c.key), .int .i64 c.time] 25)).cell? ⟨w.heap.size, 5, none⟩ = some (.int .i64 r.en) := HKA.out.cell 5
  have x6 : ((w.alloc (.cells #[.string (bstr r.id), .string (bstr r.pre), .int .i64 r.frm, .int .i64 r.to, .int .i64 r.st, .int .i64 r.en, .int .i64 r.made, .int .i64 r.kind, .string (bstr r.team)] 38)).alloc (.cells #[.string (bstr c.key), .int .i64 c.time] 25)).cell? ⟨w.heap.size, 6, none⟩ = some (.int .i64 r.made) := HKA.out.cell 6
  have x7 : ((w.alloc (.cells #[.string (bstr r.id), .string (bstr r.pre), .int .i64 r.frm, .int .i64 r.to, .int .i64 r.st, .int .i64 r.en, .int .i64 r.made, .int .i64 r.kind, .string (bstr r.team)] 38)).alloc (.cells #[.string (bstr c.key), .int .i64 c.time] 25)).cell? ⟨w.heap.size, 7, none⟩ = some (.int .i64 r.kind) := HKA.out.cell 7
  have x8 : ((w.alloc (.cells #[.string (bstr r.id), .string (bstr r.pre), .int .i64 r.frm, .int .i64 r.to, .int .i64 r.st, .int .i64 r.en, .int .i64 r.made, .int .i64 r.kind, .string (bstr r.team)] 38)).alloc (.cells #[.string (bstr c.key), .int .i64 c.time] 25)).cell? ⟨w.heap.size, 8, none⟩ = some (.string (bstr r.team)) := HKA.out.cell 8
  have y0 : ((w.alloc (.cells #[.string (bstr r.id), .string (bstr r.pre), .int .i64 r.frm, .int .i64 r.to, .int .i64 r.st, .int .i64 r.en, .int .i64 r.made, .int .i64 r.kind, .string (bstr r.team)] 38)).alloc (.cells #[.string (bstr c.key), .int .i64 c.time] 25)).cell? ⟨w.heap.size + 1, 0, none⟩ = some (.string (bstr c.key)) := HKB.out.cell 0
  have y1 : ((w.alloc (.cells #[.string (bstr r.id), .string (bstr r.pre), .int .i64 r.frm, .int .i64 r.to, .int .i64 r.st, .int .i64 r.en, .int .i64 r.made, .int .i64 r.kind, .string (bstr r.team)] 38)).alloc (.cells #[.string (bstr c.key), .int .i64 c.time] 25)).cell? ⟨w.heap.size + 1, 1, none⟩ = some (.int .i64 c.time) := HKB.out.cell 1
  go_wp2_with fail
  generalize (w.alloc (.cells #[.string (bstr r.id), .string (bstr r.pre), .int .i64 r.frm, .int .i64 r.to, .int .i64 r.st, .int .i64 r.en, .int .i64 r.made, .int .i64 r.kind, .string (bstr r.team)] 38)).alloc (.cells #[.string (bstr c.key), .int .i64 c.time] 25) = wA at *
  refine (hasPre_any c.key r.pre _ hk).mono ?_
  rintro e w1 ⟨rfl, rfl⟩
  cases q1 : preB c.key r.pre with
  | false =>
    have HF : Hid (aboutB r c = false) := Lib.hid (by unfold aboutB; rw [q1]; rfl)
    clear q1
    go_wp2_with fail
    go_ret
    exact ⟨by rw [HF.out]; rfl, HB.out⟩
  | true =>
  by_cases h1 : r.frm ≤ c.time
  · have HF : Hid (aboutB r c = decide (c.time < r.to)) := Lib.hid (by unfold aboutB; rw [q1, decide_eq_true h1]; rfl)
    clear q1
    go_wp2_with fail
    go_ret
    exact ⟨by rw [HF.out]; rfl, HB.out⟩
  · have HF : Hid (aboutB r c = false) := Lib.hid (by unfold aboutB; rw [decide_eq_false h1, Bool.false_and, Bool.and_false])
    clear q1
    go_wp2_with fail
    go_ret
    exact ⟨by rw [HF.out]; rfl, HB.out⟩
set_option maxRecDepth 100000 in
set_option maxHeartbeats 1000000 in
theorem from_any (r : Rgt) (w : World) : Calls Tryz.prog 11 #[.agg #[.string (bstr r.id), .string (bstr r.pre), .int .i64 r.frm, .int .i64 r.to, .int .i64 r.st, .int .i64 r.en, .int .i64 r.made, .int .i64 r.kind, .string (bstr r.team)]] w fun e w' => e = .returned (.int .i64 (fromI r)) ∧ Below w.heap.size w w' := by
  have HB := Lib.hid ((Below.refl w.heap.size w).alloc (Nat.le_refl _) (.cells #[.string (bstr r.id), .string (bstr r.pre), .int .i64 r.frm, .int .i64 r.to, .int .i64 r.st, .int .i64 r.en, .int .i64 r.made, .int .i64 r.kind, .string (bstr r.team)] 38))
  have hkb := Blk.new w 38 (rgtCells r)
  have m4 : (w.alloc (.cells #[.string (bstr r.id), .string (bstr r.pre), .int .i64 r.frm, .int .i64 r.to, .int .i64 r.st, .int .i64 r.en, .int .i64 r.made, .int .i64 r.kind, .string (bstr r.team)] 38)).cell? ⟨w.heap.size, 4, none⟩ = some (.int .i64 r.st) := hkb.cell 4
  have m6 : (w.alloc (.cells #[.string (bstr r.id), .string (bstr r.pre), .int .i64 r.frm, .int .i64 r.to, .int .i64 r.st, .int .i64 r.en, .int .i64 r.made, .int .i64 r.kind, .string (bstr r.team)] 38)).cell? ⟨w.heap.size, 6, none⟩ = some (.int .i64 r.made) := hkb.cell 6
  clear hkb
  have HF : Hid (fromI r = max r.st r.made) := Lib.hid rfl
  go_enter Tryz.func11, Tryz.ntmps11
  go_wp2_with fail
  go_ret
  exact ⟨by rw [HF.out]; rfl, HB.out⟩
set_option maxRecDepth 100000 in
set_option maxHeartbeats 1000000 in
theorem concerns_any (r : Rgt) (c : Cap) (at_ : Int) (w : World) (hk : c.key.length ≤ 9223372036854775807) : Calls Tryz.prog 37 #[.agg #[.string (bstr r.id), .string (bstr r.pre), .int .i64 r.frm, .int .i64 r.to, .int .i64 r.st, .int .i64 r.en, .int .i64 r.made, .int .i64 r.kind, .string (bstr r.team)], .agg #[.string (bstr c.key), .int .i64 c.time], .int .i64 at_] w fun e w' => e = .returned (.bool (concB r c at_)) ∧ Below w.heap.size w w' := by
  have hl1 := (Below.refl w.heap.size w).alloc (Nat.le_refl _) (.cells #[.string (bstr r.id), .string (bstr r.pre), .int .i64 r.frm, .int .i64 r.to, .int .i64 r.st, .int .i64 r.en, .int .i64 r.made, .int .i64 r.kind, .string (bstr r.team)] 38)
  have hl2 := (Below.refl (w.alloc (.cells #[.string (bstr r.id), .string (bstr r.pre), .int .i64 r.frm, .int .i64 r.to, .int .i64 r.st, .int .i64 r.en, .int .i64 r.made, .int .i64 r.kind, .string (bstr r.team)] 38)).heap.size _).alloc (Nat.le_refl _) (.cells #[.string (bstr c.key), .int .i64 c.time] 25)
  have HB := Lib.hid (hl1.trans (hl2.mono (by simp)))
  have hka : Blk ((w.alloc (.cells #[.string (bstr r.id), .string (bstr r.pre), .int .i64 r.frm, .int .i64 r.to, .int .i64 r.st, .int .i64 r.en, .int .i64 r.made, .int .i64 r.kind, .string (bstr r.team)] 38)).alloc (.cells #[.string (bstr c.key), .int .i64 c.time] 25)) w.heap.size 38 (rgtCells r) := (Blk.new w 38 (rgtCells r)).same (same_below hl2) (by simp)
  have hkb : Blk ((w.alloc (.cells #[.string (bstr r.id), .string (bstr r.pre), .int .i64 r.frm, .int .i64 r.to, .int .i64 r.st, .int .i64 r.en, .int .i64 r.made, .int .i64 r.kind, .string (bstr r.team)] 38)).alloc (.cells #[.string (bstr c.key), .int .i64 c.time] 25)) (w.heap.size + 1) 25 (capCells c) := by
    have := Blk.new (w.alloc (.cells #[.string (bstr r.id), .string (bstr r.pre), .int .i64 r.frm, .int .i64 r.to, .int .i64 r.st, .int .i64 r.en, .int .i64 r.made, .int .i64 r.kind, .string (bstr r.team)] 38)) 25 (capCells c)
    rwa [World.size_alloc] at this
  have HKA := Lib.hid hka
  have HKB := Lib.hid hkb
  clear hl1 hl2 hka hkb
  go_enter Tryz.func37, Tryz.ntmps37
  have x0 : ((w.alloc (.cells #[.string (bstr r.id), .string (bstr r.pre), .int .i64 r.frm, .int .i64 r.to, .int .i64 r.st, .int .i64 r.en, .int .i64 r.made, .int .i64 r.kind, .string (bstr r.team)] 38)).alloc (.cells #[.string (bstr c.key), .int .i64 c.time] 25)).cell? ⟨w.heap.size, 0, none⟩ = some (.string (bstr r.id)) := HKA.out.cell 0
  have x1 : ((w.alloc (.cells #[.string (bstr r.id), .string (bstr r.pre), .int .i64 r.frm, .int .i64 r.to, .int .i64 r.st, .int .i64 r.en, .int .i64 r.made, .int .i64 r.kind, .string (bstr r.team)] 38)).alloc (.cells #[.string (bstr c.key), .int .i64 c.time] 25)).cell? ⟨w.heap.size, 1, none⟩ = some (.string (bstr r.pre)) := HKA.out.cell 1
  have x2 : ((w.alloc (.cells #[.string (bstr r.id), .string (bstr r.pre), .int .i64 r.frm, .int .i64 r.to, .int .i64 r.st, .int .i64 r.en, .int .i64 r.made, .int .i64 r.kind, .string (bstr r.team)] 38)).alloc (.cells #[.string (bstr c.key), .int .i64 c.time] 25)).cell? ⟨w.heap.size, 2, none⟩ = some (.int .i64 r.frm) := HKA.out.cell 2
  have x3 : ((w.alloc (.cells #[.string (bstr r.id), .string (bstr r.pre), .int .i64 r.frm, .int .i64 r.to, .int .i64 r.st, .int .i64 r.en, .int .i64 r.made, .int .i64 r.kind, .string (bstr r.team)] 38)).alloc (.cells #[.string (bstr c.key), .int .i64 c.time] 25)).cell? ⟨w.heap.size, 3, none⟩ = some (.int .i64 r.to) := HKA.out.cell 3
  have x4 : ((w.alloc (.cells #[.string (bstr r.id), .string (bstr r.pre), .int .i64 r.frm, .int .i64 r.to, .int .i64 r.st, .int .i64 r.en, .int .i64 r.made, .int .i64 r.kind, .string (bstr r.team)] 38)).alloc (.cells #[.string (bstr c.key), .int .i64 c.time] 25)).cell? ⟨w.heap.size, 4, none⟩ = some (.int .i64 r.st) := HKA.out.cell 4
  have x5 : ((w.alloc (.cells #[.string (bstr r.id), .string (bstr r.pre), .int .i64 r.frm, .int .i64 r.to, .int .i64 r.st, .int .i64 r.en, .int .i64 r.made, .int .i64 r.kind, .string (bstr r.team)] 38)).alloc (.cells #[.string (bstr c.key), .int .i64 c.time] 25)).cell? ⟨w.heap.size, 5, none⟩ = some (.int .i64 r.en) := HKA.out.cell 5
  have x6 : ((w.alloc (.cells #[.string (bstr r.id), .string (bstr r.pre), .int .i64 r.frm, .int .i64 r.to, .int .i64 r.st, .int .i64 r.en, .int .i64 r.made, .int .i64 r.kind, .string (bstr r.team)] 38)).alloc (.cells #[.string (bstr c.key), .int .i64 c.time] 25)).cell? ⟨w.heap.size, 6, none⟩ = some (.int .i64 r.made) := HKA.out.cell 6
  have x7 : ((w.alloc (.cells #[.string (bstr r.id), .string (bstr r.pre), .int .i64 r.frm, .int .i64 r.to, .int .i64 r.st, .int .i64 r.en, .int .i64 r.made, .int .i64 r.kind, .string (bstr r.team)] 38)).alloc (.cells #[.string (bstr c.key), .int .i64 c.time] 25)).cell? ⟨w.heap.size, 7, none⟩ = some (.int .i64 r.kind) := HKA.out.cell 7
  have x8 : ((w.alloc (.cells #[.string (bstr r.id), .string (bstr r.pre), .int .i64 r.frm, .int .i64 r.to, .int .i64 r.st, .int .i64 r.en, .int .i64 r.made, .int .i64 r.kind, .string (bstr r.team)] 38)).alloc (.cells #[.string (bstr c.key), .int .i64 c.time] 25)).cell? ⟨w.heap.size, 8, none⟩ = some (.string (bstr r.team)) := HKA.out.cell 8
  have y0 : ((w.alloc (.cells #[.string (bstr r.id), .string (bstr r.pre), .int .i64 r.frm, .int .i64 r.to, .int .i64 r.st, .int .i64 r.en, .int .i64 r.made, .int .i64 r.kind, .string (bstr r.team)] 38)).alloc (.cells #[.string (bstr c.key), .int .i64 c.time] 25)).cell? ⟨w.heap.size + 1, 0, none⟩ = some (.string (bstr c.key)) := HKB.out.cell 0
  have y1 : ((w.alloc (.cells #[.string (bstr r.id), .string (bstr r.pre), .int .i64 r.frm, .int .i64 r.to, .int .i64 r.st, .int .i64 r.en, .int .i64 r.made, .int .i64 r.kind, .string (bstr r.team)] 38)).alloc (.cells #[.string (bstr c.key), .int .i64 c.time] 25)).cell? ⟨w.heap.size + 1, 1, none⟩ = some (.int .i64 c.time) := HKB.out.cell 1
  go_wp2_with fail
  generalize (w.alloc (.cells #[.string (bstr r.id), .string (bstr r.pre), .int .i64 r.frm, .int .i64 r.to, .int .i64 r.st, .int .i64 r.en, .int .i64 r.made, .int .i64 r.kind, .string (bstr r.team)] 38)).alloc (.cells #[.string (bstr c.key), .int .i64 c.time] 25) = wA at *
  refine (about_any r c _ hk).mono ?_
  rintro e w1 ⟨rfl, hb⟩
  have HB1 := Lib.hid (HB.out.trans (hb.mono HB.out.size))
  have HKA1 := Lib.hid (HKA.out.same (same_below hb) HKA.out.lt)
  clear hb x0 x1 x2 x3 x4 x5 x6 x7 x8 y0 y1 HKA HKB HB
  cases q1 : aboutB r c with
  | false =>
    have HF : Hid (concB r c at_ = false) := Lib.hid (by unfold concB; rw [q1]; rfl)
    clear q1
    go_wp2_with fail
    go_ret
    exact ⟨by rw [HF.out]; rfl, HB1.out⟩
  | true =>
  have x0 : w1.cell? ⟨w.heap.size, 0, none⟩ = some (.string (bstr r.id)) := HKA1.out.cell 0
  have x1 : w1.cell? ⟨w.heap.size, 1, none⟩ = some (.string (bstr r.pre)) := HKA1.out.cell 1
  have x2 : w1.cell? ⟨w.heap.size, 2, none⟩ = some (.int .i64 r.frm) := HKA1.out.cell 2
  have x3 : w1.cell? ⟨w.heap.size, 3, none⟩ = some (.int .i64 r.to) := HKA1.out.cell 3
  have x4 : w1.cell? ⟨w.heap.size, 4, none⟩ = some (.int .i64 r.st) := HKA1.out.cell 4
  have x5 : w1.cell? ⟨w.heap.size, 5, none⟩ = some (.int .i64 r.en) := HKA1.out.cell 5
  have x6 : w1.cell? ⟨w.heap.size, 6, none⟩ = some (.int .i64 r.made) := HKA1.out.cell 6
  have x7 : w1.cell? ⟨w.heap.size, 7, none⟩ = some (.int .i64 r.kind) := HKA1.out.cell 7
  have x8 : w1.cell? ⟨w.heap.size, 8, none⟩ = some (.string (bstr r.team)) := HKA1.out.cell 8
  go_wp2_with fail
  refine (from_any r _).mono ?_
  rintro e w2 ⟨rfl, hb⟩
  have HB2 := Lib.hid (HB1.out.trans (hb.mono HB1.out.size))
  have HKA2 := Lib.hid (HKA1.out.same (same_below hb) HKA1.out.lt)
  clear hb x0 x1 x2 x3 x4 x5 x6 x7 x8
  have x5 : w2.cell? ⟨w.heap.size, 5, none⟩ = some (.int .i64 r.en) := HKA2.out.cell 5
  have HR : Hid (concB r c at_ = (decide (fromI r ≤ at_) && decide (at_ < r.en))) := Lib.hid (by unfold concB; rw [q1]; rfl)
  clear q1
  generalize fromI r = fr at *
  by_cases h1 : fr ≤ at_
  · have HF : Hid (concB r c at_ = decide (at_ < r.en)) := Lib.hid (by rw [HR.out, decide_eq_true h1]; rfl)
    clear HR
    go_wp2_with fail
    go_ret
    exact ⟨by rw [HF.out]; rfl, HB2.out⟩
  · have HF : Hid (concB r c at_ = false) := Lib.hid (by rw [HR.out, decide_eq_false h1]; rfl)
    clear HR
    go_wp2_with fail
    go_ret
    exact ⟨by rw [HF.out]; rfl, HB2.out⟩
theorem conc_ref (r : Rgt) (c : Cap) (at_ : Int) : concB r c at_ = (preB c.key r.pre && (decide (r.frm ≤ c.time) && (decide (c.time < r.to) && (decide (r.st ≤ at_) && (decide (at_ < r.en) && decide (r.made ≤ at_)))))) := by
  unfold concB aboutB fromI
  cases preB c.key r.pre
  · rfl
  · rw [Bool.eq_iff_iff]
    simp only [Bool.true_and, Bool.and_eq_true, decide_eq_true_eq]
    omega
set_option maxRecDepth 100000 in
set_option maxHeartbeats 2000000 in
theorem hconcerns_any (r : Rgt) (c : Cap) (at_ : Int) (w : World) (hk : c.key.length ≤ 9223372036854775807) : Calls Tryz.prog 59 #[.agg #[.string (bstr r.id), .string (bstr r.pre), .int .i64 r.frm, .int .i64 r.to, .int .i64 r.st, .int .i64 r.en, .int .i64 r.made, .int .i64 r.kind, .string (bstr r.team)], .agg #[.string (bstr c.key), .int .i64 c.time], .int .i64 at_] w fun e w' => e = .returned (.bool (concB r c at_)) ∧ Below w.heap.size w w' := by
  have hl1 := (Below.refl w.heap.size w).alloc (Nat.le_refl _) (.cells #[.string (bstr r.id), .string (bstr r.pre), .int .i64 r.frm, .int .i64 r.to, .int .i64 r.st, .int .i64 r.en, .int .i64 r.made, .int .i64 r.kind, .string (bstr r.team)] 38)
  have hl2 := (Below.refl (w.alloc (.cells #[.string (bstr r.id), .string (bstr r.pre), .int .i64 r.frm, .int .i64 r.to, .int .i64 r.st, .int .i64 r.en, .int .i64 r.made, .int .i64 r.kind, .string (bstr r.team)] 38)).heap.size _).alloc (Nat.le_refl _) (.cells #[.string (bstr c.key), .int .i64 c.time] 25)
  have HB := Lib.hid (hl1.trans (hl2.mono (by simp)))
  have hka : Blk ((w.alloc (.cells #[.string (bstr r.id), .string (bstr r.pre), .int .i64 r.frm, .int .i64 r.to, .int .i64 r.st, .int .i64 r.en, .int .i64 r.made, .int .i64 r.kind, .string (bstr r.team)] 38)).alloc (.cells #[.string (bstr c.key), .int .i64 c.time] 25)) w.heap.size 38 (rgtCells r) := (Blk.new w 38 (rgtCells r)).same (same_below hl2) (by simp)
  have hkb : Blk ((w.alloc (.cells #[.string (bstr r.id), .string (bstr r.pre), .int .i64 r.frm, .int .i64 r.to, .int .i64 r.st, .int .i64 r.en, .int .i64 r.made, .int .i64 r.kind, .string (bstr r.team)] 38)).alloc (.cells #[.string (bstr c.key), .int .i64 c.time] 25)) (w.heap.size + 1) 25 (capCells c) := by
    have := Blk.new (w.alloc (.cells #[.string (bstr r.id), .string (bstr r.pre), .int .i64 r.frm, .int .i64 r.to, .int .i64 r.st, .int .i64 r.en, .int .i64 r.made, .int .i64 r.kind, .string (bstr r.team)] 38)) 25 (capCells c)
    rwa [World.size_alloc] at this
  have HKA := Lib.hid hka
  have HKB := Lib.hid hkb
  clear hl1 hl2 hka hkb
  have HR := Lib.hid (conc_ref r c at_)
  go_enter Tryz.func59, Tryz.ntmps59
  have x0 : ((w.alloc (.cells #[.string (bstr r.id), .string (bstr r.pre), .int .i64 r.frm, .int .i64 r.to, .int .i64 r.st, .int .i64 r.en, .int .i64 r.made, .int .i64 r.kind, .string (bstr r.team)] 38)).alloc (.cells #[.string (bstr c.key), .int .i64 c.time] 25)).cell? ⟨w.heap.size, 0, none⟩ = some (.string (bstr r.id)) := HKA.out.cell 0
  have x1 : ((w.alloc (.cells #[.string (bstr r.id), .string (bstr r.pre), .int .i64 r.frm, .int .i64 r.to, .int .i64 r.st, .int .i64 r.en, .int .i64 r.made, .int .i64 r.kind, .string (bstr r.team)] 38)).alloc (.cells #[.string (bstr c.key), .int .i64 c.time] 25)).cell? ⟨w.heap.size, 1, none⟩ = some (.string (bstr r.pre)) := HKA.out.cell 1
  have x2 : ((w.alloc (.cells #[.string (bstr r.id), .string (bstr r.pre), .int .i64 r.frm, .int .i64 r.to, .int .i64 r.st, .int .i64 r.en, .int .i64 r.made, .int .i64 r.kind, .string (bstr r.team)] 38)).alloc (.cells #[.string (bstr c.key), .int .i64 c.time] 25)).cell? ⟨w.heap.size, 2, none⟩ = some (.int .i64 r.frm) := HKA.out.cell 2
  have x3 : ((w.alloc (.cells #[.string (bstr r.id), .string (bstr r.pre), .int .i64 r.frm, .int .i64 r.to, .int .i64 r.st, .int .i64 r.en, .int .i64 r.made, .int .i64 r.kind, .string (bstr r.team)] 38)).alloc (.cells #[.string (bstr c.key), .int .i64 c.time] 25)).cell? ⟨w.heap.size, 3, none⟩ = some (.int .i64 r.to) := HKA.out.cell 3
  have x4 : ((w.alloc (.cells #[.string (bstr r.id), .string (bstr r.pre), .int .i64 r.frm, .int .i64 r.to, .int .i64 r.st, .int .i64 r.en, .int .i64 r.made, .int .i64 r.kind, .string (bstr r.team)] 38)).alloc (.cells #[.string (bstr c.key), .int .i64 c.time] 25)).cell? ⟨w.heap.size, 4, none⟩ = some (.int .i64 r.st) := HKA.out.cell 4
  have x5 : ((w.alloc (.cells #[.string (bstr r.id), .string (bstr r.pre), .int .i64 r.frm, .int .i64 r.to, .int .i64 r.st, .int .i64 r.en, .int .i64 r.made, .int .i64 r.kind, .string (bstr r.team)] 38)).alloc (.cells #[.string (bstr c.key), .int .i64 c.time] 25)).cell? ⟨w.heap.size, 5, none⟩ = some (.int .i64 r.en) := HKA.out.cell 5
  have x6 : ((w.alloc (.cells #[.string (bstr r.id), .string (bstr r.pre), .int .i64 r.frm, .int .i64 r.to, .int .i64 r.st, .int .i64 r.en, .int .i64 r.made, .int .i64 r.kind, .string (bstr r.team)] 38)).alloc (.cells #[.string (bstr c.key), .int .i64 c.time] 25)).cell? ⟨w.heap.size, 6, none⟩ = some (.int .i64 r.made) := HKA.out.cell 6
  have x7 : ((w.alloc (.cells #[.string (bstr r.id), .string (bstr r.pre), .int .i64 r.frm, .int .i64 r.to, .int .i64 r.st, .int .i64 r.en, .int .i64 r.made, .int .i64 r.kind, .string (bstr r.team)] 38)).alloc (.cells #[.string (bstr c.key), .int .i64 c.time] 25)).cell? ⟨w.heap.size, 7, none⟩ = some (.int .i64 r.kind) := HKA.out.cell 7
  have x8 : ((w.alloc (.cells #[.string (bstr r.id), .string (bstr r.pre), .int .i64 r.frm, .int .i64 r.to, .int .i64 r.st, .int .i64 r.en, .int .i64 r.made, .int .i64 r.kind, .string (bstr r.team)] 38)).alloc (.cells #[.string (bstr c.key), .int .i64 c.time] 25)).cell? ⟨w.heap.size, 8, none⟩ = some (.string (bstr r.team)) := HKA.out.cell 8
  have y0 : ((w.alloc (.cells #[.string (bstr r.id), .string (bstr r.pre), .int .i64 r.frm, .int .i64 r.to, .int .i64 r.st, .int .i64 r.en, .int .i64 r.made, .int .i64 r.kind, .string (bstr r.team)] 38)).alloc (.cells #[.string (bstr c.key), .int .i64 c.time] 25)).cell? ⟨w.heap.size + 1, 0, none⟩ = some (.string (bstr c.key)) := HKB.out.cell 0
  have y1 : ((w.alloc (.cells #[.string (bstr r.id), .string (bstr r.pre), .int .i64 r.frm, .int .i64 r.to, .int .i64 r.st, .int .i64 r.en, .int .i64 r.made, .int .i64 r.kind, .string (bstr r.team)] 38)).alloc (.cells #[.string (bstr c.key), .int .i64 c.time] 25)).cell? ⟨w.heap.size + 1, 1, none⟩ = some (.int .i64 c.time) := HKB.out.cell 1
  go_wp2_with fail
  generalize (w.alloc (.cells #[.string (bstr r.id), .string (bstr r.pre), .int .i64 r.frm, .int .i64 r.to, .int .i64 r.st, .int .i64 r.en, .int .i64 r.made, .int .i64 r.kind, .string (bstr r.team)] 38)).alloc (.cells #[.string (bstr c.key), .int .i64 c.time] 25) = wA at *
  refine (hasPre_any c.key r.pre _ hk).mono ?_
  rintro e w1 ⟨rfl, rfl⟩
  cases q1 : preB c.key r.pre with
  | false =>
    have HF : Hid (concB r c at_ = false) := Lib.hid (by rw [HR.out, q1]; rfl)
    clear q1 HR
    go_wp2_with fail
    go_ret
    exact ⟨by rw [HF.out]; rfl, HB.out⟩
  | true =>
  by_cases h1 : r.frm ≤ c.time
  case neg =>
    have HF : Hid (concB r c at_ = false) := Lib.hid (by rw [HR.out, decide_eq_false h1]; simp)
    clear q1 HR
    go_wp2_with fail
    go_ret
    exact ⟨by rw [HF.out]; rfl, HB.out⟩
  by_cases h2 : c.time < r.to
  case neg =>
    have HF : Hid (concB r c at_ = false) := Lib.hid (by rw [HR.out, decide_eq_false h2]; simp)
    clear q1 HR
    go_wp2_with fail
    go_ret
    exact ⟨by rw [HF.out]; rfl, HB.out⟩
  by_cases h3 : r.st ≤ at_
  case neg =>
    have HF : Hid (concB r c at_ = false) := Lib.hid (by rw [HR.out, decide_eq_false h3]; simp)
    clear q1 HR
    go_wp2_with fail
    go_ret
    exact ⟨by rw [HF.out]; rfl, HB.out⟩
  by_cases h4 : at_ < r.en
  case neg =>
    have HF : Hid (concB r c at_ = false) := Lib.hid (by rw [HR.out, decide_eq_false h4]; simp)
    clear q1 HR
    go_wp2_with fail
    go_ret
    exact ⟨by rw [HF.out]; rfl, HB.out⟩
  have HF : Hid (concB r c at_ = decide (r.made ≤ at_)) := Lib.hid (by rw [HR.out, q1, decide_eq_true h1, decide_eq_true h2, decide_eq_true h3, decide_eq_true h4]; rfl)
  clear q1 HR
  go_wp2_with fail
  go_ret
  exact ⟨by rw [HF.out]; rfl, HB.out⟩
end Go.Proofs.YtdljgjlkfihjdaaGreatDoor
