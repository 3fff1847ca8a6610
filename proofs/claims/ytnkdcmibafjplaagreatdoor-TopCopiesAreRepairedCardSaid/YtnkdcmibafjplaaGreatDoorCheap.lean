/-
  'cheapest' of package care.
-/
import Derived.Test.YtnkdcmibafjplaaGreatDoorRepC
import Derived.Test.YtnkdcmibafjplaaGreatDoorContains
import Derived.Test.YtnkdcmibafjplaaGreatDoorCopies
namespace Go.Proofs.YtnkdcmibafjplaaGreatDoor
open Go.RowKit
set_option linter.unusedVariables false
set_option linter.unusedSimpArgs false

def chOk (right : List (List UInt8)) (to : List UInt8) (b : List UInt8 × Int) (x : Cst) : Bool := decide (x.to = to) && ((decide (b.2 < 0) || decide (x.cost < b.2)) && decide (x.frm ∈ right))
def chStep (right : List (List UInt8)) (to : List UInt8) (b : List UInt8 × Int) (x : Cst) : List UInt8 × Int := if chOk right to b x = true then (x.frm, x.cost) else b
def chL (right : List (List UInt8)) (to : List UInt8) (l : List Cst) : List UInt8 × Int := l.foldl (chStep right to) ([], -1)
theorem chL_snoc (right : List (List UInt8)) (to : List UInt8) (l : List Cst) (x : Cst) : chL right to (l ++ [x]) = chStep right to (chL right to l) x := by simp [chL]
set_option maxRecDepth 100000 in
set_option maxHeartbeats 2000000 in
theorem cheapest_any (v : Value) (l : List Cst) (vr : Value) (right : List (List UInt8)) (to : List UInt8) (w : World) (h : (Rp.sl cstRp).ok w (· < w.heap.size) [v] l) (hr : (Rp.sl Rp.str).ok w (· < w.heap.size) [vr] (right.map bstr)) (ht : to.length ≤ 9223372036854775807) :
    Calls Tryz.prog 36 #[v, vr, .string (bstr to)] w fun e w' => e = .returned (.tuple #[.string (bstr (chL right to l).1), .bool (decide (0 ≤ (chL right to l).2))]) ∧ Below w.heap.size w w' := by
  obtain ⟨A, c, rfl, hl, hc, _⟩ := Rp.sl_open h
  unfold maxLen at hc
  have H0 := Lib.hid h
  have HR := Lib.hid hr
  clear h hr
  go_enter Tryz.func36, Tryz.ntmps36
  go_wp2_with fail
  go_loopw [8, 9, 14] (fun vb vl vi wr => ∃ (k : Nat) (best : List UInt8) (least : Int), k ≤ l.length ∧ vi = .int .i64 k ∧ vb = .string (bstr best) ∧ vl = .int .i64 least ∧ Hid (chL right to (l.take k) = (best, least)) ∧ Hid (Below w.heap.size w wr)) (fun _ _ vi _ => l.length - (intOf vi).toNat)
  case atStart => exact ⟨0, [], -1, by omega, rfl, rfl, rfl, rfl, Below.refl _ _⟩
  case round =>
    obtain ⟨k, best, least, hk, rfl, rfl, rfl, HS, HB⟩ := hrel
    by_cases hlt : k < l.length
    · obtain ⟨ad, c', e1, hadb, c0, c1, c2, hz1, hz2, hz3⟩ := cst_at (Rp.below _ H0.out HB.out) hlt
      cases e1
      have HST : Hid (chL right to (l.take (k + 1)) = chStep right to (best, least) l[k]) := Lib.hid (by rw [List.take_succ_eq_append_getElem hlt, chL_snoc, HS.out])
      clear hadb HS
      generalize l[k] = x at *
      have HBX := Lib.hid (HB.out.alloc HB.out.size (.cells #[.string (bstr x.frm), .string (bstr x.to), .int .i64 x.cost] 49))
      have hkb := Blk.new wr 49 [.string (bstr x.frm), .string (bstr x.to), .int .i64 x.cost]
      have k0 : _ = some (Value.string (bstr x.frm)) := hkb.cell 0
      have k1 : _ = some (Value.string (bstr x.to)) := hkb.cell 1
      have k2 : _ = some (Value.int .i64 x.cost) := hkb.cell 2
      have HRX := Lib.hid (Rp.below _ HR.out HBX.out)
      clear hkb HB
      have HOK : Hid (chOk right to (best, least) x = (decide (x.to = to) && ((decide (least < 0) || decide (x.cost < least)) && decide (x.frm ∈ right)))) := Lib.hid rfl
      by_cases ht0 : x.to = to
      · have hb1 : ((bstr x.to).toList == (bstr to).toList) = true := str_beq (by rw [ht0])
        have HT0 := Lib.hid ht0
        clear ht0
        by_cases h1 : least < 0
        · have d1 : decide (least < 0) = true := decide_eq_true h1
          go_wp2_with fail
          refine (contains_any vr right x.frm _ _ HRX.out).mono ?_
          rintro e w5 ⟨rfl, rfl⟩
          by_cases hm : x.frm ∈ right
          · have HN : Hid (chL right to (l.take (k + 1)) = (x.frm, x.cost)) := Lib.hid (by rw [HST.out, chStep, HOK.out, if_pos (by simp [HT0.out, h1, hm])])
            clear HOK HST
            rw [decide_eq_true hm]
            go_wp2_with fail
            go_quiet (fail)
            have HBY := Lib.hid (below_drewN HBX.out nq)
            go_wp2_with fail
            go_roundw
            case rel => exact ⟨k + 1, x.frm, x.cost, by omega, by go_num, rfl, rfl, HN, HBY.out⟩
            case measure => simp [intOf]; omega
          · rw [decide_eq_false hm]
            have HN : Hid (chL right to (l.take (k + 1)) = (best, least)) := Lib.hid (by rw [HST.out, chStep, HOK.out, if_neg (by simp [HT0.out, h1, hm])])
            clear HOK HST
            go_wp2_with fail
            go_roundw
            case rel => exact ⟨k + 1, best, least, by omega, by go_num, rfl, rfl, HN, HBX.out⟩
            case measure => simp [intOf]; omega
        · have d1 : decide (least < 0) = false := decide_eq_false h1
          by_cases h2 : x.cost < least
          · have d2 : decide (x.cost < least) = true := decide_eq_true h2
            go_wp2_with fail
            refine (contains_any vr right x.frm _ _ HRX.out).mono ?_
            rintro e w5 ⟨rfl, rfl⟩
            by_cases hm : x.frm ∈ right
            · have HN : Hid (chL right to (l.take (k + 1)) = (x.frm, x.cost)) := Lib.hid (by rw [HST.out, chStep, HOK.out, if_pos (by simp [HT0.out, h1, h2, hm])])
              clear HOK HST
              rw [decide_eq_true hm]
              go_wp2_with fail
              go_quiet (fail)
              have HBY := Lib.hid (below_drewN HBX.out nq)
              go_wp2_with fail
              go_roundw
              case rel => exact ⟨k + 1, x.frm, x.cost, by omega, by go_num, rfl, rfl, HN, HBY.out⟩
              case measure => simp [intOf]; omega
            · rw [decide_eq_false hm]
              have HN : Hid (chL right to (l.take (k + 1)) = (best, least)) := Lib.hid (by rw [HST.out, chStep, HOK.out, if_neg (by simp [HT0.out, h1, h2, hm])])
              clear HOK HST
              go_wp2_with fail
              go_roundw
              case rel => exact ⟨k + 1, best, least, by omega, by go_num, rfl, rfl, HN, HBX.out⟩
              case measure => simp [intOf]; omega
          · have d2 : decide (x.cost < least) = false := decide_eq_false h2
            have HN : Hid (chL right to (l.take (k + 1)) = (best, least)) := Lib.hid (by rw [HST.out, chStep, HOK.out, if_neg (by simp [HT0.out, h1, h2])])
            clear HOK HST
            go_wp2_with fail
            go_roundw
            case rel => exact ⟨k + 1, best, least, by omega, by go_num, rfl, rfl, HN, HBX.out⟩
            case measure => simp [intOf]; omega
      · have hb1 : ((bstr x.to).toList == (bstr to).toList) = false := str_bne (fun e => ht0 (bstr_inj e))
        have HN : Hid (chL right to (l.take (k + 1)) = (best, least)) := Lib.hid (by rw [HST.out, chStep, HOK.out, if_neg (by simp [ht0])])
        clear HOK HST
        go_wp2_with fail
        go_roundw
        case rel => exact ⟨k + 1, best, least, by omega, by go_num, rfl, rfl, HN, HBX.out⟩
        case measure => simp [intOf]; omega
    · obtain rfl : k = l.length := by omega
      have HF : Hid (chL right to l = (best, least)) := Lib.hid (by have := HS.out; rwa [List.take_length] at this)
      clear HS
      go_wp2_with fail
      go_ret2
      exact ⟨by rw [HF.out]; rfl, HB.out⟩
end Go.Proofs.YtnkdcmibafjplaaGreatDoor
