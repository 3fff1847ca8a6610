/-
  The checks of a right by itself, in package rights.
-/
import Derived.Test.YtdljgjlkfihjdaaGreatDoorRgt
namespace Go.Proofs.YtdljgjlkfihjdaaGreatDoor
open Go.RowKit
set_option linter.unusedVariables false
set_option linter.unusedSimpArgs false

set_option maxHeartbeats 400000 in
theorem gwithin_any (n lo hi : Int) (w : World) : Calls Tryz.prog 84 #[.int .i64 n, .int .i64 lo, .int .i64 hi] w fun e w' => e = .returned (.bool (withinB n lo hi)) ∧ w' = w := by
  by_cases h1 : lo ≤ n
  · by_cases h2 : n ≤ hi
    · have hd : Hid (withinB n lo hi = true) := decide_eq_true ⟨h1, h2⟩
      go_enter Tryz.func84, Tryz.ntmps84
      go_wp2
      go_ret
      exact ⟨by rw [hd.out]; rfl, rfl⟩
    · have hd : Hid (withinB n lo hi = false) := decide_eq_false (fun e => h2 e.2)
      go_enter Tryz.func84, Tryz.ntmps84
      go_wp2
      go_ret
      exact ⟨by rw [hd.out]; rfl, rfl⟩
  · have hd : Hid (withinB n lo hi = false) := decide_eq_false (fun e => h1 e.1)
    go_enter Tryz.func84, Tryz.ntmps84
    go_wp2
    go_ret
    exact ⟨by rw [hd.out]; rfl, rfl⟩
set_option maxHeartbeats 400000 in
theorem moment_any (n : Int) (w : World) : Calls Tryz.prog 17 #[.int .i64 n] w fun e w' => e = .returned (.bool (withinB n 0 253402300799)) ∧ w' = w := by
  by_cases h1 : 0 ≤ n
  · by_cases h2 : n ≤ 253402300799
    · have hd : Hid (withinB n 0 253402300799 = true) := decide_eq_true ⟨h1, h2⟩
      go_enter Tryz.func17, Tryz.ntmps17
      go_wp2
      go_ret
      exact ⟨by rw [hd.out]; rfl, rfl⟩
    · have hd : Hid (withinB n 0 253402300799 = false) := decide_eq_false (fun e => h2 e.2)
      go_enter Tryz.func17, Tryz.ntmps17
      go_wp2
      go_ret
      exact ⟨by rw [hd.out]; rfl, rfl⟩
  · have hd : Hid (withinB n 0 253402300799 = false) := decide_eq_false (fun e => h1 e.1)
    go_enter Tryz.func17, Tryz.ntmps17
    go_wp2
    go_ret
    exact ⟨by rw [hd.out]; rfl, rfl⟩
set_option maxRecDepth 100000 in
set_option maxHeartbeats 400000 in
theorem isPre_any (t : List UInt8) (w : World) (ht : t.length ≤ 9223372036854775807) :
    Calls Tryz.prog 64 #[.string (bstr t)] w fun e w' => e = .returned (.bool (isPre t)) ∧ w' = w := by
  have hsz : (bstr t).size = t.length := rfl
  go_enter Tryz.func64, Tryz.ntmps64
  go_wp2
  go_loop [6] (fun i => ∃ k : Nat, k ≤ t.length ∧ i = .int .i64 k ∧ Hid ((t.take k).all rowByte = true)) (fun i => t.length - (intOf i).toNat)
  case atStart => exact ⟨0, by omega, rfl, rfl⟩
  case round =>
    obtain ⟨k, hk, rfl, HT⟩ := hrel
    by_cases hlt : k < t.length
    · have hg : (bstr t)[k]'(by rw [hsz]; exact hlt) = t[k] := rfl
      by_cases h1 : t[k].toNat < 33
      · have HF : Hid (isPre t = false) := Lib.hid (by rw [isPre, all_no hlt (rowByte_no (.inl h1))]; rfl)
        have hb : (((bstr t)[k]'(by rw [hsz]; exact hlt)).toNat : Int) < 33 := by rw [hg]; omega
        clear hg h1
        go_wp2
        go_ret
        exact ⟨by rw [HF.out]; rfl, rfl⟩
      have hb : ¬ (((bstr t)[k]'(by rw [hsz]; exact hlt)).toNat : Int) < 33 := by rw [hg]; omega
      by_cases h2 : 126 < t[k].toNat
      · have HF : Hid (isPre t = false) := Lib.hid (by rw [isPre, all_no hlt (rowByte_no (.inr h2))]; rfl)
        have hb2 : (126 : Int) < (((bstr t)[k]'(by rw [hsz]; exact hlt)).toNat : Int) := by rw [hg]; omega
        clear hg h1 h2
        go_wp2
        go_ret
        exact ⟨by rw [HF.out]; rfl, rfl⟩
      · have hb2 : ¬ (126 : Int) < (((bstr t)[k]'(by rw [hsz]; exact hlt)).toNat : Int) := by rw [hg]; omega
        have HT2 := Lib.hid (all_yes HT.out hlt (rowByte_yes h1 h2))
        clear hg h1 h2
        go_wp2
        go_round
        case rel => exact ⟨k + 1, by omega, by go_num, HT2⟩
        case measure => simp [intOf]; omega
    · obtain rfl : k = t.length := by omega
      rw [List.take_length] at HT
      by_cases h2 : (t.length : Int) ≤ 2100
      · have HF : Hid (isPre t = true) := Lib.hid (by rw [isPre, HT.out, decide_eq_true h2]; rfl)
        go_wp2
        go_ret
        exact ⟨by rw [HF.out]; rfl, rfl⟩
      · have HF : Hid (isPre t = false) := Lib.hid (by rw [isPre, decide_eq_false h2, Bool.and_false])
        go_wp2
        go_ret
        exact ⟨by rw [HF.out]; rfl, rfl⟩
set_option maxRecDepth 100000 in
set_option maxHeartbeats 400000 in
theorem none1_any (r : Rgt) (w : World) :
    Calls Tryz.prog 49 #[.agg #[.string (bstr r.id), .string (bstr r.pre), .int .i64 r.frm, .int .i64 r.to, .int .i64 r.st, .int .i64 r.en, .int .i64 r.made, .int .i64 r.kind, .string (bstr r.team)]] w fun e w' => e = .returned (.int .i64 (none1 r)) ∧ Below w.heap.size w w' := by
  have HB := Lib.hid ((Below.refl w.heap.size w).alloc (Nat.le_refl _) (.cells #[.string (bstr r.id), .string (bstr r.pre), .int .i64 r.frm, .int .i64 r.to, .int .i64 r.st, .int .i64 r.en, .int .i64 r.made, .int .i64 r.kind, .string (bstr r.team)] 38))
  have hk := Blk.new w 38 (rgtCells r)
  have m7 : (w.alloc (.cells #[.string (bstr r.id), .string (bstr r.pre), .int .i64 r.frm, .int .i64 r.to, .int .i64 r.st, .int .i64 r.en, .int .i64 r.made, .int .i64 r.kind, .string (bstr r.team)] 38)).cell? ⟨w.heap.size, 7, none⟩ = some (.int .i64 r.kind) := hk.cell 7
  clear hk
  by_cases h : r.kind = 4
  · have HF : Hid (none1 r = 1) := Lib.hid (if_pos h)
    have hb : (r.kind == 4) = true := beq_iff_eq.2 h
    clear h
    go_enter Tryz.func49, Tryz.ntmps49
    go_wp2
    go_ret
    exact ⟨by rw [HF.out]; rfl, HB.out⟩
  · have HF : Hid (none1 r = 0) := Lib.hid (if_neg h)
    have hb : (r.kind == 4) = false := beq_eq_false_iff_ne.2 h
    clear h
    go_enter Tryz.func49, Tryz.ntmps49
    go_wp2
    go_ret
    exact ⟨by rw [HF.out]; rfl, HB.out⟩
theorem rg_range {r : Rgt} (h : withinB r.frm 0 253402300799 = false ∨ withinB r.st 0 253402300799 = false ∨ withinB r.made 0 253402300799 = false ∨ withinB r.to 0 253402300800 = false ∨ withinB r.en 0 253402300800 = false) : rgRest r = 1 := by
  have : rgRange r = false := by
    unfold rgRange
    rcases h with h | h | h | h | h <;> rw [h] <;> simp
  rw [rgRest, if_pos this]
theorem rg_range_ok {r : Rgt} (h1 : withinB r.frm 0 253402300799 = true) (h2 : withinB r.st 0 253402300799 = true) (h3 : withinB r.made 0 253402300799 = true) (h4 : withinB r.to 0 253402300800 = true) (h5 : withinB r.en 0 253402300800 = true) : rgRange r = true := by
  unfold rgRange
  rw [h1, h2, h3, h4, h5]; rfl
set_option maxRecDepth 100000 in
set_option maxHeartbeats 2000000 in
theorem checkRest_any (r : Rgt) (w : World) (hp : r.pre.length ≤ 9223372036854775807) (hz : r.team.length ≤ 9223372036854775807) :
    Calls Tryz.prog 67 #[.agg #[.string (bstr r.id), .string (bstr r.pre), .int .i64 r.frm, .int .i64 r.to, .int .i64 r.st, .int .i64 r.en, .int .i64 r.made, .int .i64 r.kind, .string (bstr r.team)]] w fun e w' => e = .returned (.int .i64 (rgRest r)) ∧ Below w.heap.size w w' := by
  have HB := Lib.hid ((Below.refl w.heap.size w).alloc (Nat.le_refl _) (.cells #[.string (bstr r.id), .string (bstr r.pre), .int .i64 r.frm, .int .i64 r.to, .int .i64 r.st, .int .i64 r.en, .int .i64 r.made, .int .i64 r.kind, .string (bstr r.team)] 38))
  have HK : Hid (Blk (w.alloc (.cells #[.string (bstr r.id), .string (bstr r.pre), .int .i64 r.frm, .int .i64 r.to, .int .i64 r.st, .int .i64 r.en, .int .i64 r.made, .int .i64 r.kind, .string (bstr r.team)] 38)) w.heap.size 38 (rgtCells r)) := Lib.hid (Blk.new w 38 (rgtCells r))
  have m0 : (w.alloc (.cells #[.string (bstr r.id), .string (bstr r.pre), .int .i64 r.frm, .int .i64 r.to, .int .i64 r.st, .int .i64 r.en, .int .i64 r.made, .int .i64 r.kind, .string (bstr r.team)] 38)).cell? ⟨w.heap.size, 0, none⟩ = some (.string (bstr r.id)) := HK.out.cell 0
  have m1 : (w.alloc (.cells #[.string (bstr r.id), .string (bstr r.pre), .int .i64 r.frm, .int .i64 r.to, .int .i64 r.st, .int .i64 r.en, .int .i64 r.made, .int .i64 r.kind, .string (bstr r.team)] 38)).cell? ⟨w.heap.size, 1, none⟩ = some (.string (bstr r.pre)) := HK.out.cell 1
  have m2 : (w.alloc (.cells #[.string (bstr r.id), .string (bstr r.pre), .int .i64 r.frm, .int .i64 r.to, .int .i64 r.st, .int .i64 r.en, .int .i64 r.made, .int .i64 r.kind, .string (bstr r.team)] 38)).cell? ⟨w.heap.size, 2, none⟩ = some (.int .i64 r.frm) := HK.out.cell 2
  have m3 : (w.alloc (.cells #[.string (bstr r.id), .string (bstr r.pre), .int .i64 r.frm, .int .i64 r.to, .int .i64 r.st, .int .i64 r.en, .int .i64 r.made, .int .i64 r.kind, .string (bstr r.team)] 38)).cell? ⟨w.heap.size, 3, none⟩ = some (.int .i64 r.to) := HK.out.cell 3
  have m4 : (w.alloc (.cells #[.string (bstr r.id), .string (bstr r.pre), .int .i64 r.frm, .int .i64 r.to, .int .i64 r.st, .int .i64 r.en, .int .i64 r.made, .int .i64 r.kind, .string (bstr r.team)] 38)).cell? ⟨w.heap.size, 4, none⟩ = some (.int .i64 r.st) := HK.out.cell 4
  have m5 : (w.alloc (.cells #[.string (bstr r.id), .string (bstr r.pre), .int .i64 r.frm, .int .i64 r.to, .int .i64 r.st, .int .i64 r.en, .int .i64 r.made, .int .i64 r.kind, .string (bstr r.team)] 38)).cell? ⟨w.heap.size, 5, none⟩ = some (.int .i64 r.en) := HK.out.cell 5
  have m6 : (w.alloc (.cells #[.string (bstr r.id), .string (bstr r.pre), .int .i64 r.frm, .int .i64 r.to, .int .i64 r.st, .int .i64 r.en, .int .i64 r.made, .int .i64 r.kind, .string (bstr r.team)] 38)).cell? ⟨w.heap.size, 6, none⟩ = some (.int .i64 r.made) := HK.out.cell 6
  have m7 : (w.alloc (.cells #[.string (bstr r.id), .string (bstr r.pre), .int .i64 r.frm, .int .i64 r.to, .int .i64 r.st, .int .i64 r.en, .int .i64 r.made, .int .i64 r.kind, .string (bstr r.team)] 38)).cell? ⟨w.heap.size, 7, none⟩ = some (.int .i64 r.kind) := HK.out.cell 7
  have m8 : (w.alloc (.cells #[.string (bstr r.id), .string (bstr r.pre), .int .i64 r.frm, .int .i64 r.to, .int .i64 r.st, .int .i64 r.en, .int .i64 r.made, .int .i64 r.kind, .string (bstr r.team)] 38)).cell? ⟨w.heap.size, 8, none⟩ = some (.string (bstr r.team)) := HK.out.cell 8
  go_enter Tryz.func67, Tryz.ntmps67
  go_wp2_with fail
  generalize w.alloc (.cells #[.string (bstr r.id), .string (bstr r.pre), .int .i64 r.frm, .int .i64 r.to, .int .i64 r.st, .int .i64 r.en, .int .i64 r.made, .int .i64 r.kind, .string (bstr r.team)] 38) = wA at *
  refine (moment_any r.frm _).mono ?_
  rintro e w1 ⟨rfl, rfl⟩
  cases q1 : withinB r.frm 0 253402300799 with
  | false =>
    have HF : Hid (rgRest r = 1) := Lib.hid ((rg_range (.inl q1)))
    clear q1
    go_wp2_with fail
    go_ret
    exact ⟨by rw [HF.out]; rfl, HB.out⟩
  | true =>
  go_wp2_with fail
  refine (moment_any r.st _).mono ?_
  rintro e w1 ⟨rfl, rfl⟩
  cases q2 : withinB r.st 0 253402300799 with
  | false =>
    have HF : Hid (rgRest r = 1) := Lib.hid ((rg_range (.inr (.inl q2))))
    clear q1 q2
    go_wp2_with fail
    go_ret
    exact ⟨by rw [HF.out]; rfl, HB.out⟩
  | true =>
  go_wp2_with fail
  refine (moment_any r.made _).mono ?_
  rintro e w1 ⟨rfl, rfl⟩
  cases q3 : withinB r.made 0 253402300799 with
  | false =>
    have HF : Hid (rgRest r = 1) := Lib.hid ((rg_range (.inr (.inr (.inl q3)))))
    clear q1 q2 q3
    go_wp2_with fail
    go_ret
    exact ⟨by rw [HF.out]; rfl, HB.out⟩
  | true =>
  go_wp2_with fail
  refine (gwithin_any r.to 0 253402300800 _).mono ?_
  rintro e w1 ⟨rfl, rfl⟩
  cases q4 : withinB r.to 0 253402300800 with
  | false =>
    have HF : Hid (rgRest r = 1) := Lib.hid ((rg_range (.inr (.inr (.inr (.inl q4))))))
    clear q1 q2 q3 q4
    go_wp2_with fail
    go_ret
    exact ⟨by rw [HF.out]; rfl, HB.out⟩
  | true =>
  go_wp2_with fail
  refine (gwithin_any r.en 0 253402300800 _).mono ?_
  rintro e w1 ⟨rfl, rfl⟩
  cases q5 : withinB r.en 0 253402300800 with
  | false =>
    have HF : Hid (rgRest r = 1) := Lib.hid ((rg_range (.inr (.inr (.inr (.inr (q5)))))))
    clear q1 q2 q3 q4 q5
    go_wp2_with fail
    go_ret
    exact ⟨by rw [HF.out]; rfl, HB.out⟩
  | true =>
  have HR := Lib.hid (rg_range_ok q1 q2 q3 q4 q5)
  clear q1 q2 q3 q4 q5
  by_cases h1 : r.to ≤ r.frm
  · have HF : Hid (rgRest r = 8) := Lib.hid ((by rw [rgRest, if_neg (by rw [HR.out]; decide), if_pos (.inl h1)]))
    go_wp2_with fail
    go_ret
    exact ⟨by rw [HF.out]; rfl, HB.out⟩
  by_cases h2 : r.en ≤ r.st
  · have HF : Hid (rgRest r = 8) := Lib.hid ((by rw [rgRest, if_neg (by rw [HR.out]; decide), if_pos (.inr h2)]))
    go_wp2_with fail
    go_ret
    exact ⟨by rw [HF.out]; rfl, HB.out⟩
  have HO : Hid (¬ (r.to ≤ r.frm ∨ r.en ≤ r.st)) := Lib.hid (fun e => e.elim h1 h2)
  go_wp2_with fail
  refine (gwithin_any r.kind 1 4 _).mono ?_
  rintro e w1 ⟨rfl, rfl⟩
  cases q6 : withinB r.kind 1 4 with
  | false =>
    have HF : Hid (rgRest r = 4) := Lib.hid ((by rw [rgRest, if_neg (by rw [HR.out]; decide), if_neg HO.out, if_pos q6]))
    clear q6
    go_wp2_with fail
    go_ret
    exact ⟨by rw [HF.out]; rfl, HB.out⟩
  | true =>
  have HRR : Hid (rgRest r = if (r.team = [] ∧ r.kind = 2) ∨ (r.team ≠ [] ∧ (r.kind = 1 ∨ r.kind = 4)) then 3 else if r.team ≠ [] ∧ isNm r.team = false then 5 else 0) := Lib.hid ((by rw [rgRest, if_neg (by rw [HR.out]; decide), if_neg HO.out, if_neg (by rw [q6]; decide)]))
  clear q6 h1 h2
  by_cases ht : r.team = []
  · have he : (bstr r.team).toList.isEmpty = true := by rw [ht, bstr_toList]; rfl
    by_cases h3 : r.kind = 2
    · have b3 : (r.kind == 2) = true := beq_iff_eq.2 h3
      have HF : Hid (rgRest r = 3) := Lib.hid (HRR.out.trans (if_pos (.inl ⟨ht, h3⟩)))
      clear h3 ht
      go_wp2_with fail
      go_ret
      exact ⟨by rw [HF.out]; rfl, HB.out⟩
    · have b3 : (r.kind == 2) = false := beq_eq_false_iff_ne.2 h3
      have HF : Hid (rgRest r = 0) := Lib.hid (HRR.out.trans (by rw [if_neg (by rintro (e | e); exact h3 e.2; exact e.1 ht), if_neg (fun e => e.1 ht)]))
      clear h3 ht
      go_wp2_with fail
      go_ret
      exact ⟨by rw [HF.out]; rfl, HB.out⟩
  have he : (bstr r.team).toList.isEmpty = false := by
    rw [bstr_toList]; cases hq : r.team with | nil => exact absurd hq ht | cons _ _ => rfl
  by_cases h1 : r.kind = 1
  · have b1 : (r.kind == 1) = true := beq_iff_eq.2 h1
    have HF : Hid (rgRest r = 3) := Lib.hid (HRR.out.trans (if_pos (.inr ⟨ht, .inl h1⟩)))
    clear h1 ht
    go_wp2_with fail
    go_ret
    exact ⟨by rw [HF.out]; rfl, HB.out⟩
  have b1 : (r.kind == 1) = false := beq_eq_false_iff_ne.2 h1
  by_cases h4 : r.kind = 4
  · have b4 : (r.kind == 4) = true := beq_iff_eq.2 h4
    have HF : Hid (rgRest r = 3) := Lib.hid (HRR.out.trans (if_pos (.inr ⟨ht, .inr h4⟩)))
    clear h1 h4 ht
    go_wp2_with fail
    go_ret
    exact ⟨by rw [HF.out]; rfl, HB.out⟩
  have b4 : (r.kind == 4) = false := beq_eq_false_iff_ne.2 h4
  have HR5 : Hid (rgRest r = if isNm r.team = false then 5 else 0) := Lib.hid (HRR.out.trans (by
    rw [if_neg (by rintro (e | e); exact ht e.1; exact e.2.elim h1 h4)]
    by_cases hn : isNm r.team = false
    · rw [if_pos ⟨ht, hn⟩, if_pos hn]
    · rw [if_neg (fun e => hn e.2), if_neg hn]))
  clear h1 h4 ht HRR
  go_wp2_with fail
  refine (isName_any r.team _ hz).mono ?_
  rintro e w2 ⟨rfl, hb2⟩
  cases hn : isNm r.team with
  | false =>
    have HF : Hid (rgRest r = 5) := Lib.hid (HR5.out.trans (if_pos hn))
    clear hn
    go_wp2_with fail
    go_ret
    exact ⟨by rw [HF.out]; rfl, HB.out.trans (hb2.mono HB.out.size)⟩
  | true =>
    have HF : Hid (rgRest r = 0) := Lib.hid (HR5.out.trans (if_neg (by rw [hn]; decide)))
    clear hn
    go_wp2_with fail
    go_ret
    exact ⟨by rw [HF.out]; rfl, HB.out.trans (hb2.mono HB.out.size)⟩
set_option maxRecDepth 100000 in
set_option maxHeartbeats 1000000 in
theorem checkRight_any (r : Rgt) (w : World) (hi : r.id.length ≤ 9223372036854775807) (hp : r.pre.length ≤ 9223372036854775807) (hz : r.team.length ≤ 9223372036854775807) :
    Calls Tryz.prog 42 #[.agg #[.string (bstr r.id), .string (bstr r.pre), .int .i64 r.frm, .int .i64 r.to, .int .i64 r.st, .int .i64 r.en, .int .i64 r.made, .int .i64 r.kind, .string (bstr r.team)]] w fun e w' => e = .returned (.int .i64 (rgF r)) ∧ Below w.heap.size w w' := by
  have HB := Lib.hid ((Below.refl w.heap.size w).alloc (Nat.le_refl _) (.cells #[.string (bstr r.id), .string (bstr r.pre), .int .i64 r.frm, .int .i64 r.to, .int .i64 r.st, .int .i64 r.en, .int .i64 r.made, .int .i64 r.kind, .string (bstr r.team)] 38))
  have HK : Hid (Blk (w.alloc (.cells #[.string (bstr r.id), .string (bstr r.pre), .int .i64 r.frm, .int .i64 r.to, .int .i64 r.st, .int .i64 r.en, .int .i64 r.made, .int .i64 r.kind, .string (bstr r.team)] 38)) w.heap.size 38 (rgtCells r)) := Lib.hid (Blk.new w 38 (rgtCells r))
  have m0 : (w.alloc (.cells #[.string (bstr r.id), .string (bstr r.pre), .int .i64 r.frm, .int .i64 r.to, .int .i64 r.st, .int .i64 r.en, .int .i64 r.made, .int .i64 r.kind, .string (bstr r.team)] 38)).cell? ⟨w.heap.size, 0, none⟩ = some (.string (bstr r.id)) := HK.out.cell 0
  have hlt : w.heap.size < (w.alloc (.cells #[.string (bstr r.id), .string (bstr r.pre), .int .i64 r.frm, .int .i64 r.to, .int .i64 r.st, .int .i64 r.en, .int .i64 r.made, .int .i64 r.kind, .string (bstr r.team)] 38)).heap.size := by simp
  go_enter Tryz.func42, Tryz.ntmps42
  go_wp2_with fail
  generalize w.alloc (.cells #[.string (bstr r.id), .string (bstr r.pre), .int .i64 r.frm, .int .i64 r.to, .int .i64 r.st, .int .i64 r.en, .int .i64 r.made, .int .i64 r.kind, .string (bstr r.team)] 38) = wA at *
  refine (isName_any r.id _ hi).mono ?_
  rintro e w1 ⟨rfl, hb1⟩
  have HB1 := Lib.hid (HB.out.trans (hb1.mono HB.out.size))
  have HK1 := Lib.hid (HK.out.same (same_below hb1) hlt)
  clear hb1 m0 HB HK hlt
  cases q1 : isNm r.id with
  | false =>
    have HF : Hid (rgF r = 5) := Lib.hid (if_pos q1)
    clear q1
    go_wp2_with fail
    go_ret
    exact ⟨by rw [HF.out]; rfl, HB1.out⟩
  | true =>
  have HR : Hid (rgF r = if isPre r.pre = false then 3 else rgRest r) := Lib.hid (if_neg (by rw [q1]; decide))
  clear q1
  have m1 : w1.cell? ⟨w.heap.size, 1, none⟩ = some (.string (bstr r.pre)) := HK1.out.cell 1
  go_wp2_with fail
  refine (isPre_any r.pre _ hp).mono ?_
  rintro e w2 ⟨rfl, rfl⟩
  cases q2 : isPre r.pre with
  | false =>
    have HF : Hid (rgF r = 3) := Lib.hid (HR.out.trans (if_pos q2))
    clear q2 HR
    go_wp2_with fail
    go_ret
    exact ⟨by rw [HF.out]; rfl, HB1.out⟩
  | true =>
  have HF : Hid (rgF r = rgRest r) := Lib.hid (HR.out.trans (if_neg (by rw [q2]; decide)))
  clear q2 HR m1
  have m0 : w2.cell? ⟨w.heap.size, 0, none⟩ = some (.string (bstr r.id)) := HK1.out.cell 0
  have m1 : w2.cell? ⟨w.heap.size, 1, none⟩ = some (.string (bstr r.pre)) := HK1.out.cell 1
  have m2 : w2.cell? ⟨w.heap.size, 2, none⟩ = some (.int .i64 r.frm) := HK1.out.cell 2
  have m3 : w2.cell? ⟨w.heap.size, 3, none⟩ = some (.int .i64 r.to) := HK1.out.cell 3
  have m4 : w2.cell? ⟨w.heap.size, 4, none⟩ = some (.int .i64 r.st) := HK1.out.cell 4
  have m5 : w2.cell? ⟨w.heap.size, 5, none⟩ = some (.int .i64 r.en) := HK1.out.cell 5
  have m6 : w2.cell? ⟨w.heap.size, 6, none⟩ = some (.int .i64 r.made) := HK1.out.cell 6
  have m7 : w2.cell? ⟨w.heap.size, 7, none⟩ = some (.int .i64 r.kind) := HK1.out.cell 7
  have m8 : w2.cell? ⟨w.heap.size, 8, none⟩ = some (.string (bstr r.team)) := HK1.out.cell 8
  go_wp2_with fail
  refine (checkRest_any r _ hp hz).mono ?_
  rintro e w3 ⟨rfl, hb3⟩
  have HB3 := Lib.hid (HB1.out.trans (hb3.mono HB1.out.size))
  clear hb3
  go_wp2_with fail
  go_ret
  exact ⟨by rw [HF.out]; rfl, HB3.out⟩
end Go.Proofs.YtdljgjlkfihjdaaGreatDoor
