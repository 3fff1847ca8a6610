/-
  'source' of the reference: the same as 'cheapest'.
-/
import Derived.Test.YtdklocgaimejgaaDoorCheap
namespace Go.Proofs.YtdklocgaimejgaaDoor
open Go.RowKit
set_option linter.unusedVariables false
set_option linter.unusedSimpArgs false

set_option maxRecDepth 100000 in
set_option maxHeartbeats 2000000 in
theorem source_any (v : Value) (l : List Cst) (vr : Value) (right : List (List UInt8)) (to : List UInt8) (w : World) (h : (Rp.sl cstRp).ok w (· < w.heap.size) [v] l) (hr : (Rp.sl Rp.str).ok w (· < w.heap.size) [vr] (right.map bstr)) (ht : to.length ≤ 9223372036854775807) (hcs : ∀ x ∈ l, x.frm ≠ [] ∧ 0 ≤ x.cost) :
    Calls Tryd.prog 34 #[vr, .string (bstr to), v] w fun e w' => e = .returned (.string (bstr (chL right to l).1)) ∧ Below w.heap.size w w' := by
  obtain ⟨A, c, rfl, hl, hc, _⟩ := Rp.sl_open h
  unfold maxLen at hc
  have H0 := Lib.hid h
  have HR := Lib.hid hr
  have HCS := Lib.hid hcs
  clear h hr hcs
  go_enter Tryd.func34, Tryd.ntmps34
  go_wp2_with fail
  go_loopw [7, 8, 13] (fun vb vl vi wr => ∃ (k : Nat) (best : List UInt8) (cl least : Int), k ≤ l.length ∧ vi = .int .i64 k ∧ vb = .string (bstr best) ∧ vl = .int .i64 least ∧ Hid (chL right to (l.take k) = (best, cl)) ∧ Hid ((best = [] ∧ cl < 0) ∨ (best ≠ [] ∧ cl = least ∧ 0 ≤ cl)) ∧ Hid (Below w.heap.size w wr)) (fun _ _ vi _ => l.length - (intOf vi).toNat)
  case atStart => exact ⟨0, [], -1, 0, by omega, rfl, rfl, rfl, rfl, .inl ⟨rfl, by decide⟩, Below.refl _ _⟩
  case round =>
    obtain ⟨k, best, cl, least, hk, rfl, rfl, rfl, HS, HI, HB⟩ := hrel
    by_cases hlt : k < l.length
    · obtain ⟨ad, c', e1, hadb, c0, c1, c2, hz1, hz2, hz3⟩ := cst_at (Rp.below _ H0.out HB.out) hlt
      cases e1
      have HST : Hid (chL right to (l.take (k + 1)) = chStep right to (best, cl) l[k]) := Lib.hid (by rw [List.take_succ_eq_append_getElem hlt, chL_snoc, HS.out])
      have HC := Lib.hid (HCS.out _ (List.getElem_mem hlt))
      clear hadb HS
      generalize l[k] = x at *
      have HBX := Lib.hid (HB.out.alloc HB.out.size (.cells #[.string (bstr x.frm), .string (bstr x.to), .int .i64 x.cost] 75))
      have hkb := Blk.new wr 75 [.string (bstr x.frm), .string (bstr x.to), .int .i64 x.cost]
      have k0 : _ = some (Value.string (bstr x.frm)) := hkb.cell 0
      have k1 : _ = some (Value.string (bstr x.to)) := hkb.cell 1
      have k2 : _ = some (Value.int .i64 x.cost) := hkb.cell 2
      have HRX := Lib.hid (Rp.below _ HR.out HBX.out)
      clear hkb HB
      have HOK : Hid (chOk right to (best, cl) x = (decide (x.to = to) && ((decide (cl < 0) || decide (x.cost < cl)) && decide (x.frm ∈ right)))) := Lib.hid rfl
      by_cases ht0 : x.to = to
      · have hb1 : ((bstr x.to).toList == (bstr to).toList) = true := str_beq (by rw [ht0])
        have HT0 := Lib.hid ht0
        clear ht0
        go_wp2_with fail
        refine (contains_any vr right x.frm _ _ HRX.out).mono ?_
        rintro e w5 ⟨rfl, rfl⟩
        by_cases hm : x.frm ∈ right
        · rw [decide_eq_true hm]
          by_cases h0 : best = []
          · subst h0
            have he : (bstr []).toList.isEmpty = true := by rw [bstr_toList]; rfl
            have h1 : cl < 0 := by rcases HI.out with h | h; exact h.2; exact absurd rfl h.1
            have HN : Hid (chL right to (l.take (k + 1)) = (x.frm, x.cost)) := Lib.hid (by rw [HST.out, chStep, HOK.out, if_pos (by simp [HT0.out, h1, hm])])
            clear HOK HST
            go_wp2_with fail
            go_quiet (fail)
            have HBY := Lib.hid (below_drewN HBX.out nq)
            have HI2 : Hid ((x.frm = [] ∧ x.cost < 0) ∨ (x.frm ≠ [] ∧ x.cost = x.cost ∧ 0 ≤ x.cost)) := Lib.hid (.inr ⟨HC.out.1, rfl, HC.out.2⟩)
            go_wp2_with fail
            go_roundw
            case rel => exact ⟨k + 1, x.frm, x.cost, x.cost, by omega, by go_num, rfl, rfl, HN, HI2, HBY.out⟩
            case measure => simp [intOf]; omega
          · have he : (bstr best).toList.isEmpty = false := by rw [bstr_toList]; cases best with | nil => exact absurd rfl h0 | cons _ _ => rfl
            have h1 : cl = least ∧ 0 ≤ cl := by rcases HI.out with h | h; exact absurd h.1 h0; exact h.2
            have H1 := Lib.hid h1
            obtain ⟨h1, h2⟩ := h1
            subst h1
            have HB0 := Lib.hid h0
            clear h0 H1
            by_cases h3 : x.cost < cl
            · have d2 : decide (x.cost < cl) = true := decide_eq_true h3
              have HN : Hid (chL right to (l.take (k + 1)) = (x.frm, x.cost)) := Lib.hid (by rw [HST.out, chStep, HOK.out, if_pos (by simp [HT0.out, h3, hm])])
              clear HOK HST
              go_wp2_with fail
              go_quiet (fail)
              have HBY := Lib.hid (below_drewN HBX.out nq)
              have HI2 : Hid ((x.frm = [] ∧ x.cost < 0) ∨ (x.frm ≠ [] ∧ x.cost = x.cost ∧ 0 ≤ x.cost)) := Lib.hid (.inr ⟨HC.out.1, rfl, HC.out.2⟩)
              go_wp2_with fail
              go_roundw
              case rel => exact ⟨k + 1, x.frm, x.cost, x.cost, by omega, by go_num, rfl, rfl, HN, HI2, HBY.out⟩
              case measure => simp [intOf]; omega
            · have d2 : decide (x.cost < cl) = false := decide_eq_false h3
              have h1 : ¬ cl < 0 := by omega
              have HN : Hid (chL right to (l.take (k + 1)) = (best, cl)) := Lib.hid (by rw [HST.out, chStep, HOK.out, if_neg (by simp [HT0.out, h1, h3, hm])])
              clear HOK HST
              go_wp2_with fail
              go_roundw
              case rel => exact ⟨k + 1, best, cl, _, by omega, by go_num, rfl, rfl, HN, Lib.hid (.inr ⟨HB0.out, rfl, by omega⟩), HBX.out⟩
              case measure => simp [intOf]; omega
        · rw [decide_eq_false hm]
          have HN : Hid (chL right to (l.take (k + 1)) = (best, cl)) := Lib.hid (by rw [HST.out, chStep, HOK.out, if_neg (by simp [hm])])
          clear HOK HST
          go_wp2_with fail
          go_roundw
          case rel => exact ⟨k + 1, best, cl, _, by omega, by go_num, rfl, rfl, HN, HI, HBX.out⟩
          case measure => simp [intOf]; omega
      · have hb1 : ((bstr x.to).toList == (bstr to).toList) = false := str_bne (fun e => ht0 (bstr_inj e))
        have HN : Hid (chL right to (l.take (k + 1)) = (best, cl)) := Lib.hid (by rw [HST.out, chStep, HOK.out, if_neg (by simp [ht0])])
        clear HOK HST
        go_wp2_with fail
        go_roundw
        case rel => exact ⟨k + 1, best, cl, _, by omega, by go_num, rfl, rfl, HN, HI, HBX.out⟩
        case measure => simp [intOf]; omega
    · obtain rfl : k = l.length := by omega
      have HF : Hid (chL right to l = (best, cl)) := Lib.hid (by have := HS.out; rwa [List.take_length] at this)
      clear HS
      go_wp2_with fail
      go_ret
      exact ⟨by rw [HF.out]; rfl, HB.out⟩
end Go.Proofs.YtdklocgaimejgaaDoor
