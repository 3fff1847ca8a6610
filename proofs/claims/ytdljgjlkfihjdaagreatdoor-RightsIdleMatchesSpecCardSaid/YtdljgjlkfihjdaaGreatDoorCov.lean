/-
  'covered' of package rights.
-/
import Derived.Test.YtdljgjlkfihjdaaGreatDoorSortR
import Derived.Test.YtdljgjlkfihjdaaGreatDoorIdleP
import Derived.Test.YtdljgjlkfihjdaaGreatDoorSortI
import Derived.Test.YtdljgjlkfihjdaaGreatDoorCloneR
namespace Go.Proofs.YtdljgjlkfihjdaaGreatDoor
open Go.RowKit
set_option linter.unusedVariables false
set_option linter.unusedSimpArgs false

def NotOver (r : Rgt) (L : List Rgt) (tm : Int) : Prop := ∀ at_, fromI r ≤ at_ → at_ < r.en → Over L tm at_
theorem sml {x : Rgt} (h : RBd x) : (0 ≤ x.st ∧ x.st ≤ 253402300800) ∧ 0 ≤ x.made ∧ x.made ≤ 253402300800 := ⟨h.st, h.made⟩
set_option maxRecDepth 100000 in
set_option maxHeartbeats 16000000 in
theorem covered_any (r : Rgt) (v : Value) (L : List Rgt) (w : World) (h : (Rp.sl rgtRp).ok w (· < w.heap.size) [v] L) (hl : L.length ≤ 300) (hr : RBd r) (hL : ∀ x ∈ L, RBd x) :
    Calls Tryz.prog 26 #[.agg #[.string (bstr r.id), .string (bstr r.pre), .int .i64 r.frm, .int .i64 r.to, .int .i64 r.st, .int .i64 r.en, .int .i64 r.made, .int .i64 r.kind, .string (bstr r.team)], v] w fun e w' => e = .returned (.bool (covB r L)) ∧ Below w.heap.size w w' := by
  obtain ⟨A, c, rfl, hlc, hc, _⟩ := Rp.sl_open h
  unfold maxLen at hc
  have hal := (Below.refl w.heap.size w).alloc (Nat.le_refl _) (.cells #[.string (bstr r.id), .string (bstr r.pre), .int .i64 r.frm, .int .i64 r.to, .int .i64 r.st, .int .i64 r.en, .int .i64 r.made, .int .i64 r.kind, .string (bstr r.team)] 38)
  have HK0 : Hid (Blk (w.alloc (.cells #[.string (bstr r.id), .string (bstr r.pre), .int .i64 r.frm, .int .i64 r.to, .int .i64 r.st, .int .i64 r.en, .int .i64 r.made, .int .i64 r.kind, .string (bstr r.team)] 38)) w.heap.size 38 (rgtCells r)) := Lib.hid (Blk.new w 38 (rgtCells r))
  have H0 := Lib.hid (Rp.ext _ h hal)
  have HB0 := Lib.hid hal
  have HBD := Lib.hid hr
  have HLB := Lib.hid hL
  have hw1 : (w.alloc (.cells #[.string (bstr r.id), .string (bstr r.pre), .int .i64 r.frm, .int .i64 r.to, .int .i64 r.st, .int .i64 r.en, .int .i64 r.made, .int .i64 r.kind, .string (bstr r.team)] 38)).heap.size = w.heap.size + 1 := by simp
  clear h hal hr hL
  go_enter Tryz.func26, Tryz.ntmps26
  have r2 : (w.alloc (.cells #[.string (bstr r.id), .string (bstr r.pre), .int .i64 r.frm, .int .i64 r.to, .int .i64 r.st, .int .i64 r.en, .int .i64 r.made, .int .i64 r.kind, .string (bstr r.team)] 38)).cell? ⟨w.heap.size, 2, none⟩ = some (.int .i64 r.frm) := HK0.out.cell 2
  have HI0 : Hid (((w.alloc (.cells #[.string (bstr r.id), .string (bstr r.pre), .int .i64 r.frm, .int .i64 r.to, .int .i64 r.st, .int .i64 r.en, .int .i64 r.made, .int .i64 r.kind, .string (bstr r.team)] 38)).alloc (.cells #[.int .i64 r.frm] 3)).ownsRow (w.alloc (.cells #[.string (bstr r.id), .string (bstr r.pre), .int .i64 r.frm, .int .i64 r.to, .int .i64 r.st, .int .i64 r.en, .int .i64 r.made, .int .i64 r.kind, .string (bstr r.team)] 38)).heap.size 3 1 (.slice (some ⟨(w.alloc (.cells #[.string (bstr r.id), .string (bstr r.pre), .int .i64 r.frm, .int .i64 r.to, .int .i64 r.st, .int .i64 r.en, .int .i64 r.made, .int .i64 r.kind, .string (bstr r.team)] 38)).heap.size, 0, none⟩) 1 1) 1 [.int .i64 r.frm]) := Lib.hid (World.ownsRow_lit (size := 1) _ #[.int .i64 r.frm] 1 (Nat.le_refl _) (by unfold maxLen; omega) rfl)
  have HB1 : Hid (Below (w.alloc (.cells #[.string (bstr r.id), .string (bstr r.pre), .int .i64 r.frm, .int .i64 r.to, .int .i64 r.st, .int .i64 r.en, .int .i64 r.made, .int .i64 r.kind, .string (bstr r.team)] 38)).heap.size (w.alloc (.cells #[.string (bstr r.id), .string (bstr r.pre), .int .i64 r.frm, .int .i64 r.to, .int .i64 r.st, .int .i64 r.en, .int .i64 r.made, .int .i64 r.kind, .string (bstr r.team)] 38)) ((w.alloc (.cells #[.string (bstr r.id), .string (bstr r.pre), .int .i64 r.frm, .int .i64 r.to, .int .i64 r.st, .int .i64 r.en, .int .i64 r.made, .int .i64 r.kind, .string (bstr r.team)] 38)).alloc (.cells #[.int .i64 r.frm] 3))) := Lib.hid ((Below.refl _ _).alloc (Nat.le_refl _) _)
  rw [hw1] at HI0
  go_wp2_with fail
  clear r2
  generalize (w.alloc (.cells #[.string (bstr r.id), .string (bstr r.pre), .int .i64 r.frm, .int .i64 r.to, .int .i64 r.st, .int .i64 r.en, .int .i64 r.made, .int .i64 r.kind, .string (bstr r.team)] 38)).alloc (.cells #[.int .i64 r.frm] 3) = w1 at *
  have HRL := HK0.out.lt
  generalize hw0 : w.alloc (.cells #[.string (bstr r.id), .string (bstr r.pre), .int .i64 r.frm, .int .i64 r.to, .int .i64 r.st, .int .i64 r.en, .int .i64 r.made, .int .i64 r.kind, .string (bstr r.team)] 38) = w0 at *
  generalize hrb : w.heap.size = rb at *
  have HRE := Lib.hid hrb
  clear hrb
  go_loopw [5, 21] (fun vo vi wr => ∃ k : Nat, k ≤ L.length ∧ vi = .int .i64 k ∧ Hid (wr.ownsRow w0.heap.size 3 1 vo (covT r L k).length ((covT r L k).map (.int .i64))) ∧ Hid (Below w0.heap.size w0 wr)) (fun _ vi _ => L.length - (intOf vi).toNat)
  case atStart => exact ⟨0, by omega, rfl, by rw [hw1]; exact HI0, HB1⟩
  case round =>
    clear HI0 HB1
    obtain ⟨k, hk, rfl, HO, HB⟩ := hrel
    obtain ⟨Ao, co, hvo, hco1, hco2, _⟩ := own_form HO.out
    subst hvo
    have hcl := covT_len r L k
    by_cases hlt : k < L.length
    · obtain ⟨ad, c', e1, hadb, c0, c1, c2, c3, c4, c5, c6, c7, c8, hz⟩ := rgt_at (Rp.ext _ H0.out HB.out) hlt
      cases e1
      have HS : Hid (covT r L (k + 1) = covT r L k ++ ((if r.frm < L[k].frm ∧ L[k].frm < r.to then [L[k].frm] else []) ++ (if r.frm < L[k].to ∧ L[k].to < r.to then [L[k].to] else []))) := Lib.hid (by rw [covT, getD_at _ _ hlt])
      have HKr := Lib.hid (HK0.out.same (same_below HB.out) HK0.out.lt)
      generalize L[k] = x at *
      generalize covT r L k = E at *
      have hal := (Below.refl wr.heap.size wr).alloc (Nat.le_refl _) (.cells #[.string (bstr x.id), .string (bstr x.pre), .int .i64 x.frm, .int .i64 x.to, .int .i64 x.st, .int .i64 x.en, .int .i64 x.made, .int .i64 x.kind, .string (bstr x.team)] 38)
      have HB4 := Lib.hid (ext_trans HB.out hal)
      have HO4 := Lib.hid (own_below HO.out hal)
      have HX : Hid (Blk (wr.alloc (.cells #[.string (bstr x.id), .string (bstr x.pre), .int .i64 x.frm, .int .i64 x.to, .int .i64 x.st, .int .i64 x.en, .int .i64 x.made, .int .i64 x.kind, .string (bstr x.team)] 38)) wr.heap.size 38 (rgtCells x)) := Lib.hid (Blk.new wr 38 (rgtCells x))
      have HR4 := Lib.hid (HKr.out.same (same_below hal) HKr.out.lt)
      have HNX : Hid (∀ g, (Value.slice Ao E.length co).ownBlock = some g → g ≠ wr.heap.size) := Lib.hid (fun g hg => Nat.ne_of_lt (HO.out.lt g hg).2)
      have heb : E.length ≤ 10000 := by omega
      have hmL : (k : Int) < (L.length : Int) := by omega
      have x2 : (wr.alloc (.cells #[.string (bstr x.id), .string (bstr x.pre), .int .i64 x.frm, .int .i64 x.to, .int .i64 x.st, .int .i64 x.en, .int .i64 x.made, .int .i64 x.kind, .string (bstr x.team)] 38)).cell? ⟨wr.heap.size, 2, none⟩ = some (.int .i64 x.frm) := HX.out.cell 2
      have x3 : (wr.alloc (.cells #[.string (bstr x.id), .string (bstr x.pre), .int .i64 x.frm, .int .i64 x.to, .int .i64 x.st, .int .i64 x.en, .int .i64 x.made, .int .i64 x.kind, .string (bstr x.team)] 38)).cell? ⟨wr.heap.size, 3, none⟩ = some (.int .i64 x.to) := HX.out.cell 3
      have r2 : (wr.alloc (.cells #[.string (bstr x.id), .string (bstr x.pre), .int .i64 x.frm, .int .i64 x.to, .int .i64 x.st, .int .i64 x.en, .int .i64 x.made, .int .i64 x.kind, .string (bstr x.team)] 38)).cell? ⟨rb, 2, none⟩ = some (.int .i64 r.frm) := HR4.out.cell 2
      have r3 : (wr.alloc (.cells #[.string (bstr x.id), .string (bstr x.pre), .int .i64 x.frm, .int .i64 x.to, .int .i64 x.st, .int .i64 x.en, .int .i64 x.made, .int .i64 x.kind, .string (bstr x.team)] 38)).cell? ⟨rb, 3, none⟩ = some (.int .i64 r.to) := HR4.out.cell 3
      clear hal HO HB hcl hadb HKr
      by_cases h1 : r.frm < x.frm ∧ x.frm < r.to
      · obtain ⟨h1a, h1b⟩ := h1
        by_cases h3 : r.frm < x.to ∧ x.to < r.to
        · have e1 : (if r.frm < x.frm ∧ x.frm < r.to then [x.frm] else ([] : List Int)) = [x.frm] := if_pos ⟨h1a, h1b⟩
          obtain ⟨h3a, h3b⟩ := h3
          have e3 : (if r.frm < x.to ∧ x.to < r.to then [x.to] else ([] : List Int)) = [x.to] := if_pos ⟨h3a, h3b⟩
          have HSE := Lib.hid (show covT r L (k + 1) = E ++ ([x.frm] ++ [x.to]) by rw [HS.out, e1, e3])
          clear e1 e3 HS
          go_wp2_with (at_builtin; first | ((refine app_new (w := (wr.alloc (.cells #[.string (bstr x.id), .string (bstr x.pre), .int .i64 x.frm, .int .i64 x.to, .int .i64 x.st, .int .i64 x.en, .int .i64 x.made, .int .i64 x.kind, .string (bstr x.team)] 38))) rfl (.tmp 37) (.tmp 40) 26 rfl 3 (.int .i64 0) 1 8 Tryz.underlying26 int_info rfl (by decide) (m := 1) [.int .i64 x.frm] HO4.out HB4.out.size rfl (by first | rfl | (rw [World.size_alloc]; rfl)) rfl (by decide) (by simp [Value.oneCell']) (by unfold maxLen; omega) (by omega) ?_); intro g8 c8 w8 HO8 HG8 HE8 HL8; have HB8 := Lib.hid (HE8.out _ HB4.out); have HX8 := Lib.hid (HX.out.same (grown_same HG8.out) ⟨HX.out.lt, fun e => HNX.out _ e.symm rfl⟩); have HR8 := Lib.hid (HK0.out.same (same_below HB8.out) HK0.out.lt); have u3 : w8.cell? ⟨wr.heap.size, 3, none⟩ = some (.int .i64 x.to) := HX8.out.cell 3; have s2 : w8.cell? ⟨rb, 2, none⟩ = some (.int .i64 r.frm) := HR8.out.cell 2; have s3 : w8.cell? ⟨rb, 3, none⟩ = some (.int .i64 r.to) := HR8.out.cell 3) | ((refine app_new (w := w8) rfl (.tmp 54) (.tmp 57) 26 rfl 3 (.int .i64 0) 1 8 Tryz.underlying26 int_info rfl (by decide) (m := 1) [.int .i64 x.to] HO8.out HB8.out.size rfl (by first | rfl | (rw [World.size_alloc]; rfl)) rfl (by decide) (by simp [Value.oneCell']) (by unfold maxLen; omega) (by omega) ?_); intro g9 c9 w9 HO9 HG9 HE9 HL9; have HB9 := Lib.hid (HE9.out _ HB8.out)))
          go_roundw
          case rel => first | exact ⟨k + 1, by omega, by go_num, Lib.hid (by rw [HSE.out]; simpa [Nat.add_assoc] using HO9.out), HB9⟩ | (repeat (apply Exists.intro); (refine And.intro ?_ ?_; rotate_left; (repeat' (first | exact rfl | apply And.intro)); exact ⟨k + 1, by omega, by go_num, Lib.hid (by rw [HSE.out]; simpa [Nat.add_assoc] using HO9.out), HB9⟩))
          case measure => simp [intOf]; omega
        by_cases h3a : r.frm < x.to
        · have e1 : (if r.frm < x.frm ∧ x.frm < r.to then [x.frm] else ([] : List Int)) = [x.frm] := if_pos ⟨h1a, h1b⟩
          have h3b : ¬ x.to < r.to := fun e => h3 ⟨h3a, e⟩
          have e3 : (if r.frm < x.to ∧ x.to < r.to then [x.to] else ([] : List Int)) = [] := if_neg h3
          clear h3
          have HSE := Lib.hid (show covT r L (k + 1) = E ++ ([x.frm] ++ []) by rw [HS.out, e1, e3])
          clear e1 e3 HS
          go_wp2_with (at_builtin; go_must (refine app_new (w := (wr.alloc (.cells #[.string (bstr x.id), .string (bstr x.pre), .int .i64 x.frm, .int .i64 x.to, .int .i64 x.st, .int .i64 x.en, .int .i64 x.made, .int .i64 x.kind, .string (bstr x.team)] 38))) rfl (.tmp 37) (.tmp 40) 26 rfl 3 (.int .i64 0) 1 8 Tryz.underlying26 int_info rfl (by decide) (m := 1) [.int .i64 x.frm] HO4.out HB4.out.size rfl (by first | rfl | (rw [World.size_alloc]; rfl)) rfl (by decide) (by simp [Value.oneCell']) (by unfold maxLen; omega) (by omega) ?_); intro g8 c8 w8 HO8 HG8 HE8 HL8; have HB8 := Lib.hid (HE8.out _ HB4.out); have HX8 := Lib.hid (HX.out.same (grown_same HG8.out) ⟨HX.out.lt, fun e => HNX.out _ e.symm rfl⟩); have HR8 := Lib.hid (HK0.out.same (same_below HB8.out) HK0.out.lt); have u3 : w8.cell? ⟨wr.heap.size, 3, none⟩ = some (.int .i64 x.to) := HX8.out.cell 3; have s2 : w8.cell? ⟨rb, 2, none⟩ = some (.int .i64 r.frm) := HR8.out.cell 2; have s3 : w8.cell? ⟨rb, 3, none⟩ = some (.int .i64 r.to) := HR8.out.cell 3)
          go_roundw
          case rel => first | exact ⟨k + 1, by omega, by go_num, Lib.hid (by rw [HSE.out]; simpa [Nat.add_assoc] using HO8.out), HB8⟩ | (repeat (apply Exists.intro); (refine And.intro ?_ ?_; rotate_left; (repeat' (first | exact rfl | apply And.intro)); exact ⟨k + 1, by omega, by go_num, Lib.hid (by rw [HSE.out]; simpa [Nat.add_assoc] using HO8.out), HB8⟩))
          case measure => simp [intOf]; omega
        · have e1 : (if r.frm < x.frm ∧ x.frm < r.to then [x.frm] else ([] : List Int)) = [x.frm] := if_pos ⟨h1a, h1b⟩
          have e3 : (if r.frm < x.to ∧ x.to < r.to then [x.to] else ([] : List Int)) = [] := if_neg h3
          clear h3
          have HSE := Lib.hid (show covT r L (k + 1) = E ++ ([x.frm] ++ []) by rw [HS.out, e1, e3])
          clear e1 e3 HS
          go_wp2_with (at_builtin; go_must (refine app_new (w := (wr.alloc (.cells #[.string (bstr x.id), .string (bstr x.pre), .int .i64 x.frm, .int .i64 x.to, .int .i64 x.st, .int .i64 x.en, .int .i64 x.made, .int .i64 x.kind, .string (bstr x.team)] 38))) rfl (.tmp 37) (.tmp 40) 26 rfl 3 (.int .i64 0) 1 8 Tryz.underlying26 int_info rfl (by decide) (m := 1) [.int .i64 x.frm] HO4.out HB4.out.size rfl (by first | rfl | (rw [World.size_alloc]; rfl)) rfl (by decide) (by simp [Value.oneCell']) (by unfold maxLen; omega) (by omega) ?_); intro g8 c8 w8 HO8 HG8 HE8 HL8; have HB8 := Lib.hid (HE8.out _ HB4.out); have HX8 := Lib.hid (HX.out.same (grown_same HG8.out) ⟨HX.out.lt, fun e => HNX.out _ e.symm rfl⟩); have HR8 := Lib.hid (HK0.out.same (same_below HB8.out) HK0.out.lt); have u3 : w8.cell? ⟨wr.heap.size, 3, none⟩ = some (.int .i64 x.to) := HX8.out.cell 3; have s2 : w8.cell? ⟨rb, 2, none⟩ = some (.int .i64 r.frm) := HR8.out.cell 2; have s3 : w8.cell? ⟨rb, 3, none⟩ = some (.int .i64 r.to) := HR8.out.cell 3)
          go_roundw
          case rel => first | exact ⟨k + 1, by omega, by go_num, Lib.hid (by rw [HSE.out]; simpa [Nat.add_assoc] using HO8.out), HB8⟩ | (repeat (apply Exists.intro); (refine And.intro ?_ ?_; rotate_left; (repeat' (first | exact rfl | apply And.intro)); exact ⟨k + 1, by omega, by go_num, Lib.hid (by rw [HSE.out]; simpa [Nat.add_assoc] using HO8.out), HB8⟩))
          case measure => simp [intOf]; omega
      by_cases h1a : r.frm < x.frm
      · by_cases h3 : r.frm < x.to ∧ x.to < r.to
        · have e1 : (if r.frm < x.frm ∧ x.frm < r.to then [x.frm] else ([] : List Int)) = [] := if_neg h1
          have h1b : ¬ x.frm < r.to := fun e => h1 ⟨h1a, e⟩
          clear h1
          obtain ⟨h3a, h3b⟩ := h3
          have e3 : (if r.frm < x.to ∧ x.to < r.to then [x.to] else ([] : List Int)) = [x.to] := if_pos ⟨h3a, h3b⟩
          have HSE := Lib.hid (show covT r L (k + 1) = E ++ ([] ++ [x.to]) by rw [HS.out, e1, e3])
          clear e1 e3 HS
          go_wp2_with (at_builtin; go_must (refine app_new (w := (wr.alloc (.cells #[.string (bstr x.id), .string (bstr x.pre), .int .i64 x.frm, .int .i64 x.to, .int .i64 x.st, .int .i64 x.en, .int .i64 x.made, .int .i64 x.kind, .string (bstr x.team)] 38))) rfl (.tmp 54) (.tmp 57) 26 rfl 3 (.int .i64 0) 1 8 Tryz.underlying26 int_info rfl (by decide) (m := 1) [.int .i64 x.to] HO4.out HB4.out.size rfl (by first | rfl | (rw [World.size_alloc]; rfl)) rfl (by decide) (by simp [Value.oneCell']) (by unfold maxLen; omega) (by omega) ?_); intro g9 c9 w9 HO9 HG9 HE9 HL9; have HB9 := Lib.hid (HE9.out _ HB4.out))
          go_roundw
          case rel => first | exact ⟨k + 1, by omega, by go_num, Lib.hid (by rw [HSE.out]; simpa [Nat.add_assoc] using HO9.out), HB9⟩ | (repeat (apply Exists.intro); (refine And.intro ?_ ?_; rotate_left; (repeat' (first | exact rfl | apply And.intro)); exact ⟨k + 1, by omega, by go_num, Lib.hid (by rw [HSE.out]; simpa [Nat.add_assoc] using HO9.out), HB9⟩))
          case measure => simp [intOf]; omega
        by_cases h3a : r.frm < x.to
        · have e1 : (if r.frm < x.frm ∧ x.frm < r.to then [x.frm] else ([] : List Int)) = [] := if_neg h1
          have h1b : ¬ x.frm < r.to := fun e => h1 ⟨h1a, e⟩
          clear h1
          have h3b : ¬ x.to < r.to := fun e => h3 ⟨h3a, e⟩
          have e3 : (if r.frm < x.to ∧ x.to < r.to then [x.to] else ([] : List Int)) = [] := if_neg h3
          clear h3
          have HSE := Lib.hid (show covT r L (k + 1) = E ++ ([] ++ []) by rw [HS.out, e1, e3])
          clear e1 e3 HS
          go_wp2_with fail
          go_roundw
          case rel => first | exact ⟨k + 1, by omega, by go_num, Lib.hid (by rw [HSE.out]; simpa [Nat.add_assoc] using HO4.out), HB4⟩ | (repeat (apply Exists.intro); (refine And.intro ?_ ?_; rotate_left; (repeat' (first | exact rfl | apply And.intro)); exact ⟨k + 1, by omega, by go_num, Lib.hid (by rw [HSE.out]; simpa [Nat.add_assoc] using HO4.out), HB4⟩))
          case measure => simp [intOf]; omega
        · have e1 : (if r.frm < x.frm ∧ x.frm < r.to then [x.frm] else ([] : List Int)) = [] := if_neg h1
          have h1b : ¬ x.frm < r.to := fun e => h1 ⟨h1a, e⟩
          clear h1
          have e3 : (if r.frm < x.to ∧ x.to < r.to then [x.to] else ([] : List Int)) = [] := if_neg h3
          clear h3
          have HSE := Lib.hid (show covT r L (k + 1) = E ++ ([] ++ []) by rw [HS.out, e1, e3])
          clear e1 e3 HS
          go_wp2_with fail
          go_roundw
          case rel => first | exact ⟨k + 1, by omega, by go_num, Lib.hid (by rw [HSE.out]; simpa [Nat.add_assoc] using HO4.out), HB4⟩ | (repeat (apply Exists.intro); (refine And.intro ?_ ?_; rotate_left; (repeat' (first | exact rfl | apply And.intro)); exact ⟨k + 1, by omega, by go_num, Lib.hid (by rw [HSE.out]; simpa [Nat.add_assoc] using HO4.out), HB4⟩))
          case measure => simp [intOf]; omega
      · by_cases h3 : r.frm < x.to ∧ x.to < r.to
        · have e1 : (if r.frm < x.frm ∧ x.frm < r.to then [x.frm] else ([] : List Int)) = [] := if_neg h1
          clear h1
          obtain ⟨h3a, h3b⟩ := h3
          have e3 : (if r.frm < x.to ∧ x.to < r.to then [x.to] else ([] : List Int)) = [x.to] := if_pos ⟨h3a, h3b⟩
          have HSE := Lib.hid (show covT r L (k + 1) = E ++ ([] ++ [x.to]) by rw [HS.out, e1, e3])
          clear e1 e3 HS
          go_wp2_with (at_builtin; go_must (refine app_new (w := (wr.alloc (.cells #[.string (bstr x.id), .string (bstr x.pre), .int .i64 x.frm, .int .i64 x.to, .int .i64 x.st, .int .i64 x.en, .int .i64 x.made, .int .i64 x.kind, .string (bstr x.team)] 38))) rfl (.tmp 54) (.tmp 57) 26 rfl 3 (.int .i64 0) 1 8 Tryz.underlying26 int_info rfl (by decide) (m := 1) [.int .i64 x.to] HO4.out HB4.out.size rfl (by first | rfl | (rw [World.size_alloc]; rfl)) rfl (by decide) (by simp [Value.oneCell']) (by unfold maxLen; omega) (by omega) ?_); intro g9 c9 w9 HO9 HG9 HE9 HL9; have HB9 := Lib.hid (HE9.out _ HB4.out))
          go_roundw
          case rel => first | exact ⟨k + 1, by omega, by go_num, Lib.hid (by rw [HSE.out]; simpa [Nat.add_assoc] using HO9.out), HB9⟩ | (repeat (apply Exists.intro); (refine And.intro ?_ ?_; rotate_left; (repeat' (first | exact rfl | apply And.intro)); exact ⟨k + 1, by omega, by go_num, Lib.hid (by rw [HSE.out]; simpa [Nat.add_assoc] using HO9.out), HB9⟩))
          case measure => simp [intOf]; omega
        by_cases h3a : r.frm < x.to
        · have e1 : (if r.frm < x.frm ∧ x.frm < r.to then [x.frm] else ([] : List Int)) = [] := if_neg h1
          clear h1
          have h3b : ¬ x.to < r.to := fun e => h3 ⟨h3a, e⟩
          have e3 : (if r.frm < x.to ∧ x.to < r.to then [x.to] else ([] : List Int)) = [] := if_neg h3
          clear h3
          have HSE := Lib.hid (show covT r L (k + 1) = E ++ ([] ++ []) by rw [HS.out, e1, e3])
          clear e1 e3 HS
          go_wp2_with fail
          go_roundw
          case rel => first | exact ⟨k + 1, by omega, by go_num, Lib.hid (by rw [HSE.out]; simpa [Nat.add_assoc] using HO4.out), HB4⟩ | (repeat (apply Exists.intro); (refine And.intro ?_ ?_; rotate_left; (repeat' (first | exact rfl | apply And.intro)); exact ⟨k + 1, by omega, by go_num, Lib.hid (by rw [HSE.out]; simpa [Nat.add_assoc] using HO4.out), HB4⟩))
          case measure => simp [intOf]; omega
        · have e1 : (if r.frm < x.frm ∧ x.frm < r.to then [x.frm] else ([] : List Int)) = [] := if_neg h1
          clear h1
          have e3 : (if r.frm < x.to ∧ x.to < r.to then [x.to] else ([] : List Int)) = [] := if_neg h3
          clear h3
          have HSE := Lib.hid (show covT r L (k + 1) = E ++ ([] ++ []) by rw [HS.out, e1, e3])
          clear e1 e3 HS
          go_wp2_with fail
          go_roundw
          case rel => first | exact ⟨k + 1, by omega, by go_num, Lib.hid (by rw [HSE.out]; simpa [Nat.add_assoc] using HO4.out), HB4⟩ | (repeat (apply Exists.intro); (refine And.intro ?_ ?_; rotate_left; (repeat' (first | exact rfl | apply And.intro)); exact ⟨k + 1, by omega, by go_num, Lib.hid (by rw [HSE.out]; simpa [Nat.add_assoc] using HO4.out), HB4⟩))
          case measure => simp [intOf]; omega
    · obtain rfl : k = L.length := by omega
      have HMT : Hid (∀ n, n ∈ covT r L L.length ↔ InTimes r L n) := Lib.hid (fun n => covT_all r L n)
      generalize hes : covT r L L.length = es at *
      clear hes
      go_wp2_with fail
      refine (sortI_any _ es w0.heap.size wr HO.out (by omega) (by omega)).mono ?_
      rintro e w2 ⟨rfl, ho, hg⟩
      have HO1 := Lib.hid ho
      have HB1 := Lib.hid (HB.out.grown hg HB.out.size (fun g hg => (HO.out.lt g hg).1))
      clear ho hg
      have hsl := srtI_len es
      have HSL := Lib.hid hsl
      rw [hsl] at HO1
      clear hsl
      go_wp2_with fail
      refine (compI_any _ (srtI es) w0.heap.size w2 (by rw [HSL.out]; exact HO1.out) (by rw [HSL.out]; omega) (by rw [HSL.out]; omega)).mono ?_
      rintro e w3 ⟨v2, rfl, ho, hg⟩
      have HB2 := Lib.hid (HB1.out.grown hg HB1.out.size (fun g hg => (HO1.out.lt g hg).1))
      have HTM : Hid (∀ n, n ∈ Lib.compact (srtI es) ↔ InTimes r L n) := Lib.hid (fun n => by rw [(comp_sorted (srtI_sorted es)).1, srtI_mem]; exact HMT.out n)
      have hcl2 := compI_le (srtI es)
      rw [HSL.out] at hcl2
      clear hg HO1 HO HB HB1 HMT HSL
      generalize Lib.compact (srtI es) = T at *
      have HTR : Hid ((Rp.sl (Rp.int .i64)).ok w3 (· < w3.heap.size) [v2] T) := Lib.hid (Rp.int_own ho (fun n hn => by
        rcases (HTM.out n).1 hn with rfl | ⟨x, hx, he, _⟩
        · exact WalkArith.wf_i64 (by have := HBD.out.frm; omega)
        · have h1 := (HLB.out x hx).frm
          have h2 := (HLB.out x hx).to
          rcases he with rfl | rfl
          · exact WalkArith.wf_i64 (by omega)
          · exact WalkArith.wf_i64 (by omega)) (fun g hg => (ho.lt g hg).2))
      have HCT : Hid (Cov r L ↔ ∀ tm ∈ T, NotOver r L tm) := Lib.hid (cov_times HTM.out HBD.out.lt)
      have HRK : Hid (∀ x ∈ L, RgtOk x) := Lib.hid (fun x hx => by
        obtain ⟨j, hj, rfl⟩ := List.mem_iff_getElem.1 hx
        obtain ⟨_, _, _, _, _, _, _, _, _, _, _, _, _, hz⟩ := rgt_at H0.out hj
        exact hz)
      obtain ⟨A2, cT, rfl, hlT, hcT, _⟩ := Rp.sl_open HTR.out
      unfold maxLen at hcT
      clear ho HTM
      go_wp2_with fail
      go_loopw [65] (fun vi wr => ∃ k : Nat, k ≤ T.length ∧ vi = .int .i64 k ∧ Hid (Below w3.heap.size w3 wr) ∧ Hid (∀ j (h : j < T.length), j < k → NotOver r L T[j])) (fun vi _ => T.length - (intOf vi).toNat)
      case atStart => exact ⟨0, by omega, rfl, Below.refl _ _, Lib.hid (fun j _ hj => absurd hj (by omega))⟩
      case round =>
        obtain ⟨k, hk, rfl, HBk, HNk⟩ := hrel
        obtain ⟨wB, hwB⟩ : ∃ wB, wB = wr := ⟨_, rfl⟩
        subst hwB
        have HBB := Lib.hid (HB2.out.trans (HBk.out.mono HB2.out.size))
        have HFB := Lib.hid (HB0.out.trans (HBB.out.mono (by omega)))
        by_cases hlt : k < T.length
        · obtain ⟨adT, uT, e1, _, hu, hcell⟩ := Rp.sl_at1 rfl (Rp.ext _ HTR.out HBk.out) hlt
          cases e1
          obtain ⟨e1, _⟩ := hu
          injection e1 with e1
          subst e1
          have HNK1 : Hid (NotOver r L T[k] → ∀ j (h : j < T.length), j < k + 1 → NotOver r L T[j]) := Lib.hid (fun h j hj hjk => by
            by_cases e : j = k
            · subst e; exact h
            · exact HNk.out j hj (by omega))
          have HNC : Hid (¬ NotOver r L T[k] → covB r L = false) := Lib.hid (fun h => covB_no (fun hc => h (HCT.out.1 hc _ (List.getElem_mem hlt))))
          have hmT : (k : Int) < (T.length : Int) := by omega
          have H0B := Lib.hid (Rp.ext _ H0.out HBB.out)
          have HRB := Lib.hid (HK0.out.same (same_below HBB.out) HK0.out.lt)
          generalize T[k] = tm at *
          clear HNk
          go_wp2_with fail
          clear hcell
          go_loopw [10, 71] (fun vo vi wr => ∃ m : Nat, m ≤ L.length ∧ vi = .int .i64 m ∧ Hid (wr.ownsRow wB.heap.size 38 9 vo (someK (L.take m) tm).length ((someK (L.take m) tm).flatMap rgtCells)) ∧ Hid (Below wB.heap.size wB wr)) (fun _ vi _ => L.length - (intOf vi).toNat)
          case atStart => exact ⟨0, by omega, rfl, World.ownsRow_nil _ _ _ _, Below.refl _ _⟩
          case round =>
            obtain ⟨m, hm, rfl, HO, HB⟩ := hrel
            obtain ⟨Ao, co, hvo, hco1, hco2, _⟩ := own_form HO.out
            subst hvo
            have hsl : (someK (L.take m) tm).length ≤ m := by
              unfold someK
              exact Nat.le_trans (List.length_filter_le _ _) (by rw [List.length_take]; omega)
            by_cases hlm : m < L.length
            · obtain ⟨ad, c', e1, hadb, c0, c1, c2, c3, c4, c5, c6, c7, c8, hz⟩ := rgt_at (Rp.ext _ H0B.out HB.out) hlm
              cases e1
              have HS := Lib.hid (someK_take (tm := tm) hlm)
              generalize L[m] = x at *
              generalize someK (L.take m) tm = E at *
              have hal := (Below.refl wr.heap.size wr).alloc (Nat.le_refl _) (.cells #[.string (bstr x.id), .string (bstr x.pre), .int .i64 x.frm, .int .i64 x.to, .int .i64 x.st, .int .i64 x.en, .int .i64 x.made, .int .i64 x.kind, .string (bstr x.team)] 38)
              have HB4 := Lib.hid (ext_trans HB.out hal)
              have HO4 := Lib.hid (own_below HO.out hal)
              have HX : Hid (Blk (wr.alloc (.cells #[.string (bstr x.id), .string (bstr x.pre), .int .i64 x.frm, .int .i64 x.to, .int .i64 x.st, .int .i64 x.en, .int .i64 x.made, .int .i64 x.kind, .string (bstr x.team)] 38)) wr.heap.size 38 (rgtCells x)) := Lib.hid (Blk.new wr 38 (rgtCells x))
              have hmL : (m : Int) < (L.length : Int) := by omega
              have x0 : (wr.alloc (.cells #[.string (bstr x.id), .string (bstr x.pre), .int .i64 x.frm, .int .i64 x.to, .int .i64 x.st, .int .i64 x.en, .int .i64 x.made, .int .i64 x.kind, .string (bstr x.team)] 38)).cell? ⟨wr.heap.size, 0, none⟩ = some (.string (bstr x.id)) := HX.out.cell 0
              have x1 : (wr.alloc (.cells #[.string (bstr x.id), .string (bstr x.pre), .int .i64 x.frm, .int .i64 x.to, .int .i64 x.st, .int .i64 x.en, .int .i64 x.made, .int .i64 x.kind, .string (bstr x.team)] 38)).cell? ⟨wr.heap.size, 1, none⟩ = some (.string (bstr x.pre)) := HX.out.cell 1
              have x2 : (wr.alloc (.cells #[.string (bstr x.id), .string (bstr x.pre), .int .i64 x.frm, .int .i64 x.to, .int .i64 x.st, .int .i64 x.en, .int .i64 x.made, .int .i64 x.kind, .string (bstr x.team)] 38)).cell? ⟨wr.heap.size, 2, none⟩ = some (.int .i64 x.frm) := HX.out.cell 2
              have x3 : (wr.alloc (.cells #[.string (bstr x.id), .string (bstr x.pre), .int .i64 x.frm, .int .i64 x.to, .int .i64 x.st, .int .i64 x.en, .int .i64 x.made, .int .i64 x.kind, .string (bstr x.team)] 38)).cell? ⟨wr.heap.size, 3, none⟩ = some (.int .i64 x.to) := HX.out.cell 3
              have x4 : (wr.alloc (.cells #[.string (bstr x.id), .string (bstr x.pre), .int .i64 x.frm, .int .i64 x.to, .int .i64 x.st, .int .i64 x.en, .int .i64 x.made, .int .i64 x.kind, .string (bstr x.team)] 38)).cell? ⟨wr.heap.size, 4, none⟩ = some (.int .i64 x.st) := HX.out.cell 4
              have x5 : (wr.alloc (.cells #[.string (bstr x.id), .string (bstr x.pre), .int .i64 x.frm, .int .i64 x.to, .int .i64 x.st, .int .i64 x.en, .int .i64 x.made, .int .i64 x.kind, .string (bstr x.team)] 38)).cell? ⟨wr.heap.size, 5, none⟩ = some (.int .i64 x.en) := HX.out.cell 5
              have x6 : (wr.alloc (.cells #[.string (bstr x.id), .string (bstr x.pre), .int .i64 x.frm, .int .i64 x.to, .int .i64 x.st, .int .i64 x.en, .int .i64 x.made, .int .i64 x.kind, .string (bstr x.team)] 38)).cell? ⟨wr.heap.size, 6, none⟩ = some (.int .i64 x.made) := HX.out.cell 6
              have x7 : (wr.alloc (.cells #[.string (bstr x.id), .string (bstr x.pre), .int .i64 x.frm, .int .i64 x.to, .int .i64 x.st, .int .i64 x.en, .int .i64 x.made, .int .i64 x.kind, .string (bstr x.team)] 38)).cell? ⟨wr.heap.size, 7, none⟩ = some (.int .i64 x.kind) := HX.out.cell 7
              have x8 : (wr.alloc (.cells #[.string (bstr x.id), .string (bstr x.pre), .int .i64 x.frm, .int .i64 x.to, .int .i64 x.st, .int .i64 x.en, .int .i64 x.made, .int .i64 x.kind, .string (bstr x.team)] 38)).cell? ⟨wr.heap.size, 8, none⟩ = some (.string (bstr x.team)) := HX.out.cell 8
              clear hal HO HB hadb
              by_cases h1 : x.frm ≤ tm
              · by_cases h2 : tm < x.to
                · rw [if_pos ⟨h1, h2⟩] at HS
                  go_wp2_with (at_builtin; go_must (refine app_new (w := (wr.alloc (.cells #[.string (bstr x.id), .string (bstr x.pre), .int .i64 x.frm, .int .i64 x.to, .int .i64 x.st, .int .i64 x.en, .int .i64 x.made, .int .i64 x.kind, .string (bstr x.team)] 38))) rfl (.tmp 85) (.tmp 87) 23 rfl 38 (.agg #[.string ⟨#[]⟩, .string ⟨#[]⟩, .int .i64 0, .int .i64 0, .int .i64 0, .int .i64 0, .int .i64 0, .int .i64 0, .string ⟨#[]⟩]) 9 96 Tryz.underlying23 rgt_info rfl (by decide) (m := 1) [.string (bstr x.id), .string (bstr x.pre), .int .i64 x.frm, .int .i64 x.to, .int .i64 x.st, .int .i64 x.en, .int .i64 x.made, .int .i64 x.kind, .string (bstr x.team)] HO4.out HB4.out.size rfl (by first | rfl | (rw [World.size_alloc]; rfl)) rfl (by decide) (by simp [Value.oneCell']) (by unfold maxLen; omega) (by omega) ?_); intro g8 c8' w8 HO8 HG8 HE8 HL8)
                  have HB8 := Lib.hid (HE8.out _ HB4.out)
                  go_roundw
                  case rel => first | exact ⟨m + 1, by omega, by go_num, Lib.hid (by rw [HS.out, List.length_append, List.flatMap_append]; exact HO8.out), HB8⟩ | (repeat (apply Exists.intro); (refine And.intro ?_ ?_; rotate_left; (repeat' (first | exact rfl | apply And.intro)); exact ⟨m + 1, by omega, by go_num, Lib.hid (by rw [HS.out, List.length_append, List.flatMap_append]; exact HO8.out), HB8⟩))
                  case measure => simp [intOf]; omega
                · rw [if_neg (fun h => h2 h.2), List.append_nil] at HS
                  go_wp2_with fail
                  go_roundw
                  case rel => first | exact ⟨m + 1, by omega, by go_num, Lib.hid (by rw [HS.out]; exact HO4.out), HB4⟩ | (repeat (apply Exists.intro); (refine And.intro ?_ ?_; rotate_left; (repeat' (first | exact rfl | apply And.intro)); exact ⟨m + 1, by omega, by go_num, Lib.hid (by rw [HS.out]; exact HO4.out), HB4⟩))
                  case measure => simp [intOf]; omega
              · rw [if_neg (fun h => h1 h.1), List.append_nil] at HS
                go_wp2_with fail
                go_roundw
                case rel => first | exact ⟨m + 1, by omega, by go_num, Lib.hid (by rw [HS.out]; exact HO4.out), HB4⟩ | (repeat (apply Exists.intro); (refine And.intro ?_ ?_; rotate_left; (repeat' (first | exact rfl | apply And.intro)); exact ⟨m + 1, by omega, by go_num, Lib.hid (by rw [HS.out]; exact HO4.out), HB4⟩))
                case measure => simp [intOf]; omega
            · obtain rfl : m = L.length := by omega
              rw [List.take_length] at HO hco1 hsl ⊢
              obtain ⟨M, hM⟩ := rbs_of (L := someK L tm) (fun p hp => sml (HLB.out p (some_mem.1 hp).1))
              have hMl : M.length = (someK L tm).length := by rw [← hM, List.length_map]
              have HSK : Hid (∀ p ∈ someK L tm, p ∈ L) := Lib.hid (fun p hp => (some_mem.1 hp).1)
              have HSV : Hid (∀ out : List Rgt, out.Perm (someK L tm) → out.Pairwise (fun x y => fromI x ≤ fromI y) → (r.en ≤ scan out (fromI r) ↔ NotOver r L tm)) := Lib.hid (fun out h1 h2 => scan_over h1 h2)
              generalize someK L tm = SM at *
              subst hM
              have ho := HO.out
              rw [← rb_flat, ← hMl] at ho
              rw [← hMl]
              have hmb : M.length ≤ 300 := by omega
              have HO' := Lib.hid ho
              have hbz := HB.out.size
              clear hMl ho
              go_wp2_with fail
              refine (sortR_any _ M wB.heap.size wr HO'.out (by omega)).mono ?_
              rintro e wS ⟨rfl, out, hpm, hsr, hos, hbs⟩
              have HBS := Lib.hid (HB.out.trans hbs)
              have hpm2 : (out.map Rb.rgt).Perm (M.map Rb.rgt) := hpm.map _
              have hsr2 : (out.map Rb.rgt).Pairwise (fun x y => fromI x ≤ fromI y) := by rw [List.pairwise_map]; exact hsr
              have HSO := Lib.hid (HSV.out _ hpm2 hsr2)
              have hlen : M.length = (out.map Rb.rgt).length := by rw [List.length_map]; exact hpm.length_eq.symm
              rw [rb_flat, show out.length = (out.map Rb.rgt).length by simp] at hos
              rw [hlen] at hos ⊢
              have HOR : Hid ((Rp.sl rgtRp).ok wS (· < wS.heap.size) [_] (out.map Rb.rgt)) := Lib.hid (rgts_read hos (fun s hs => HRK.out s (HSK.out s (hpm2.mem_iff.1 hs))))
              have hmll : (out.map Rb.rgt).length ≤ 300 := by omega
              generalize out.map Rb.rgt = OUT at *
              clear hpm hsr hos hbs hpm2 hsr2 HSV HSK HO' hlen HO HB hco1 hsl hbz
              have HBW := Lib.hid (HBB.out.trans (HBS.out.mono HBB.out.size))
              have HRS := Lib.hid (HK0.out.same (same_below HBW.out) HK0.out.lt)
              have r0 : wS.cell? ⟨rb, 0, none⟩ = some (.string (bstr r.id)) := HRS.out.cell 0
              have r1 : wS.cell? ⟨rb, 1, none⟩ = some (.string (bstr r.pre)) := HRS.out.cell 1
              have r2 : wS.cell? ⟨rb, 2, none⟩ = some (.int .i64 r.frm) := HRS.out.cell 2
              have r3 : wS.cell? ⟨rb, 3, none⟩ = some (.int .i64 r.to) := HRS.out.cell 3
              have r4 : wS.cell? ⟨rb, 4, none⟩ = some (.int .i64 r.st) := HRS.out.cell 4
              have r5 : wS.cell? ⟨rb, 5, none⟩ = some (.int .i64 r.en) := HRS.out.cell 5
              have r6 : wS.cell? ⟨rb, 6, none⟩ = some (.int .i64 r.made) := HRS.out.cell 6
              have r7 : wS.cell? ⟨rb, 7, none⟩ = some (.int .i64 r.kind) := HRS.out.cell 7
              have r8 : wS.cell? ⟨rb, 8, none⟩ = some (.string (bstr r.team)) := HRS.out.cell 8
              go_wp2_with fail
              refine (from_any r _).mono ?_
              rintro e wT ⟨rfl, hb⟩
              have HBT := Lib.hid (ext_trans HBS.out hb)
              have HOT := Lib.hid (Rp.ext _ HOR.out hb)
              clear hb HOR HRS HBW r0 r1 r2 r3 r4 r5 r6 r7 r8 HBS
              go_wp2_with fail
              go_loopw [13, 96] (fun va vi wr => ∃ (m : Nat) (a : Int), m ≤ OUT.length ∧ va = .int .i64 a ∧ vi = .int .i64 m ∧ Hid (scan OUT (fromI r) = scan (OUT.drop m) a) ∧ Hid (Below wT.heap.size wT wr)) (fun _ vi _ => OUT.length - (intOf vi).toNat)
              case atStart => exact ⟨0, _, by omega, rfl, rfl, Lib.hid rfl, Below.refl _ _⟩
              case round =>
                obtain ⟨m, a, hm, rfl, rfl, HSC, HB⟩ := hrel
                have HBX := Lib.hid (ext_trans HBT.out HB.out)
                by_cases hlm : m < OUT.length
                · obtain ⟨ad, c', e1, hadb, c0, c1, c2, c3, c4, c5, c6, c7, c8, hz⟩ := rgt_at (Rp.ext _ HOT.out HB.out) hlm
                  cases e1
                  rw [List.drop_eq_getElem_cons hlm, scan] at HSC
                  generalize OUT[m] = y at *
                  have hal := (Below.refl wr.heap.size wr).alloc (Nat.le_refl _) (.cells #[.string (bstr y.id), .string (bstr y.pre), .int .i64 y.frm, .int .i64 y.to, .int .i64 y.st, .int .i64 y.en, .int .i64 y.made, .int .i64 y.kind, .string (bstr y.team)] 38)
                  have HBY := Lib.hid (ext_trans HBX.out hal)
                  have HBY0 := Lib.hid (ext_trans HB.out hal)
                  have HY : Hid (Blk (wr.alloc (.cells #[.string (bstr y.id), .string (bstr y.pre), .int .i64 y.frm, .int .i64 y.to, .int .i64 y.st, .int .i64 y.en, .int .i64 y.made, .int .i64 y.kind, .string (bstr y.team)] 38)) wr.heap.size 38 (rgtCells y)) := Lib.hid (Blk.new wr 38 (rgtCells y))
                  have hmL : (m : Int) < (OUT.length : Int) := by omega
                  have y0 : (wr.alloc (.cells #[.string (bstr y.id), .string (bstr y.pre), .int .i64 y.frm, .int .i64 y.to, .int .i64 y.st, .int .i64 y.en, .int .i64 y.made, .int .i64 y.kind, .string (bstr y.team)] 38)).cell? ⟨wr.heap.size, 0, none⟩ = some (.string (bstr y.id)) := HY.out.cell 0
                  have y1 : (wr.alloc (.cells #[.string (bstr y.id), .string (bstr y.pre), .int .i64 y.frm, .int .i64 y.to, .int .i64 y.st, .int .i64 y.en, .int .i64 y.made, .int .i64 y.kind, .string (bstr y.team)] 38)).cell? ⟨wr.heap.size, 1, none⟩ = some (.string (bstr y.pre)) := HY.out.cell 1
                  have y2 : (wr.alloc (.cells #[.string (bstr y.id), .string (bstr y.pre), .int .i64 y.frm, .int .i64 y.to, .int .i64 y.st, .int .i64 y.en, .int .i64 y.made, .int .i64 y.kind, .string (bstr y.team)] 38)).cell? ⟨wr.heap.size, 2, none⟩ = some (.int .i64 y.frm) := HY.out.cell 2
                  have y3 : (wr.alloc (.cells #[.string (bstr y.id), .string (bstr y.pre), .int .i64 y.frm, .int .i64 y.to, .int .i64 y.st, .int .i64 y.en, .int .i64 y.made, .int .i64 y.kind, .string (bstr y.team)] 38)).cell? ⟨wr.heap.size, 3, none⟩ = some (.int .i64 y.to) := HY.out.cell 3
                  have y4 : (wr.alloc (.cells #[.string (bstr y.id), .string (bstr y.pre), .int .i64 y.frm, .int .i64 y.to, .int .i64 y.st, .int .i64 y.en, .int .i64 y.made, .int .i64 y.kind, .string (bstr y.team)] 38)).cell? ⟨wr.heap.size, 4, none⟩ = some (.int .i64 y.st) := HY.out.cell 4
                  have y5 : (wr.alloc (.cells #[.string (bstr y.id), .string (bstr y.pre), .int .i64 y.frm, .int .i64 y.to, .int .i64 y.st, .int .i64 y.en, .int .i64 y.made, .int .i64 y.kind, .string (bstr y.team)] 38)).cell? ⟨wr.heap.size, 5, none⟩ = some (.int .i64 y.en) := HY.out.cell 5
                  have y6 : (wr.alloc (.cells #[.string (bstr y.id), .string (bstr y.pre), .int .i64 y.frm, .int .i64 y.to, .int .i64 y.st, .int .i64 y.en, .int .i64 y.made, .int .i64 y.kind, .string (bstr y.team)] 38)).cell? ⟨wr.heap.size, 6, none⟩ = some (.int .i64 y.made) := HY.out.cell 6
                  have y7 : (wr.alloc (.cells #[.string (bstr y.id), .string (bstr y.pre), .int .i64 y.frm, .int .i64 y.to, .int .i64 y.st, .int .i64 y.en, .int .i64 y.made, .int .i64 y.kind, .string (bstr y.team)] 38)).cell? ⟨wr.heap.size, 7, none⟩ = some (.int .i64 y.kind) := HY.out.cell 7
                  have y8 : (wr.alloc (.cells #[.string (bstr y.id), .string (bstr y.pre), .int .i64 y.frm, .int .i64 y.to, .int .i64 y.st, .int .i64 y.en, .int .i64 y.made, .int .i64 y.kind, .string (bstr y.team)] 38)).cell? ⟨wr.heap.size, 8, none⟩ = some (.string (bstr y.team)) := HY.out.cell 8
                  clear hal hadb
                  go_wp2_with fail
                  refine (from_any y _).mono ?_
                  rintro e w7 ⟨rfl, hb⟩
                  have HY7 := Lib.hid (HY.out.same (same_below hb) HY.out.lt)
                  have HB7 := Lib.hid (ext_trans HBY.out hb)
                  have HB70 := Lib.hid (ext_trans HBY0.out hb)
                  have q5 : w7.cell? ⟨wr.heap.size, 5, none⟩ = some (.int .i64 y.en) := HY7.out.cell 5
                  clear hb HY HBY HBY0 y0 y1 y2 y3 y4 y5 y6 y7 y8 c0 c1 c2 c3 c4 c5 c6 c7 c8
                  by_cases hbr : a < fromI y
                  · rw [if_pos hbr] at HSC
                    generalize fromI y = fy at *
                    have HBZ := Lib.hid (HBB.out.trans (HB7.out.mono HBB.out.size))
                    have HFZ := Lib.hid (HB0.out.trans (HBZ.out.mono (by omega)))
                    have HBK := Lib.hid (ext_trans HBk.out HB7.out)
                    have HRZ := Lib.hid (HK0.out.same (same_below HBZ.out) HK0.out.lt)
                    have z5 : w7.cell? ⟨rb, 5, none⟩ = some (.int .i64 r.en) := HRZ.out.cell 5
                    by_cases hend : a < r.en
                    · have HCB := Lib.hid (HNC.out (fun h => by have h2 := HSO.out.2 h; rw [HSC.out] at h2; omega))
                      clear HSC HSO HNC HNK1
                      go_wp2_with fail
                      go_ret
                      exact ⟨by rw [HCB.out]; rfl, by rw [HRE.out]; exact HFZ.out⟩
                    · have HNX := Lib.hid (HNK1.out (HSO.out.1 (by rw [HSC.out]; omega)))
                      clear HSC HSO HNC HNK1
                      go_wp2_with fail
                      go_roundw
                      case rel => exact ⟨k + 1, by omega, by go_num, HBK, HNX⟩
                      case measure => simp [intOf]; omega
                  · rw [if_neg hbr] at HSC
                    generalize fromI y = fy at *
                    go_wp2_with fail
                    go_roundw
                    case rel => exact ⟨m + 1, _, by omega, rfl, by go_num, HSC, HB70⟩
                    case measure => simp [intOf]; omega
                · obtain rfl : m = OUT.length := by omega
                  rw [List.drop_length, scan] at HSC
                  have HBZ := Lib.hid (HBB.out.trans (HBX.out.mono HBB.out.size))
                  have HFZ := Lib.hid (HB0.out.trans (HBZ.out.mono (by omega)))
                  have HBK := Lib.hid (ext_trans HBk.out HBX.out)
                  have HRZ := Lib.hid (HK0.out.same (same_below HBZ.out) HK0.out.lt)
                  have z5 : wr.cell? ⟨rb, 5, none⟩ = some (.int .i64 r.en) := HRZ.out.cell 5
                  by_cases hend : a < r.en
                  · have HCB := Lib.hid (HNC.out (fun h => by have h2 := HSO.out.2 h; rw [HSC.out] at h2; omega))
                    clear HSC HSO HNC HNK1
                    go_wp2_with fail
                    go_ret
                    exact ⟨by rw [HCB.out]; rfl, by rw [HRE.out]; exact HFZ.out⟩
                  · have HNX := Lib.hid (HNK1.out (HSO.out.1 (by rw [HSC.out]; omega)))
                    clear HSC HSO HNC HNK1
                    go_wp2_with fail
                    go_roundw
                    case rel => exact ⟨k + 1, by omega, by go_num, HBK, HNX⟩
                    case measure => simp [intOf]; omega
        · obtain rfl : k = T.length := by omega
          have HCB := Lib.hid (covB_yes (HCT.out.2 (fun tm htm => by
            obtain ⟨j, hj, rfl⟩ := List.mem_iff_getElem.1 htm
            exact HNk.out j hj hj)))
          go_wp2_with fail
          go_ret
          exact ⟨by rw [HCB.out]; rfl, by rw [HRE.out]; exact HFB.out⟩
end Go.Proofs.YtdljgjlkfihjdaaGreatDoor
