/-
  'Sent' of the reference: how many repairs a site sends in a round at most.
-/
import Derived.Test.YtdklocgaimejgaaDoorMend1
namespace Go.Proofs.YtdklocgaimejgaaDoor
open Go.RowKit
set_option linter.unusedVariables false
set_option linter.unusedSimpArgs false

theorem cntR_le (out : List Rpr) (f : List UInt8) (n : Int) : cntR out f n ≤ out.length := List.length_filter_le _ _
theorem cntR_take {l : List Rpr} {k : Nat} (h : k < l.length) (f : List UInt8) (n : Int) : cntR (l.take (k + 1)) f n = cntR (l.take k) f n + if l[k].frm = f ∧ l[k].rnd = n then 1 else 0 := by
  rw [List.take_succ_eq_append_getElem h, cntR_snoc]
set_option maxRecDepth 100000 in
set_option maxHeartbeats 2000000 in
theorem sent_any (v : Value) (l : List Rpr) (mx : Nat) (w : World) (h : (Rp.sl rprRp).ok w (· < w.heap.size) [v] l) (hl : l.length ≤ 3000) (hb : ∀ x ∈ l, cntR l x.frm x.rnd ≤ mx) :
    Calls Tryd.prog 9 #[v] w fun e w' => (∃ n : Nat, e = .returned (.int .i64 (n : Int)) ∧ n ≤ mx) ∧ Below w.heap.size w w' := by
  obtain ⟨A, c, rfl, hlc, hc, _⟩ := Rp.sl_open h
  unfold maxLen at hc
  have H0 := Lib.hid h
  have HX := Lib.hid hb
  clear h hb
  go_enter Tryd.func9, Tryd.ntmps9
  go_wp2_with fail
  go_loopw [3, 11] (fun vm vi wr => ∃ (k m : Nat), k ≤ l.length ∧ vi = .int .i64 k ∧ vm = .int .i64 m ∧ m ≤ mx ∧ m ≤ 3000 ∧ Hid (Below w.heap.size w wr)) (fun _ vi _ => l.length - (intOf vi).toNat)
  case atStart => exact ⟨0, 0, by omega, rfl, rfl, by omega, by omega, Below.refl _ _⟩
  case round =>
    obtain ⟨k, m, hk, rfl, rfl, hm1, hm2, HB⟩ := hrel
    by_cases hlt : k < l.length
    · obtain ⟨ad, c', e1, hadb, c0, c1, c2, c3, hz1, hz2, hz3, hz4⟩ := rpr_at (Rp.below _ H0.out HB.out) hlt
      cases e1
      have HMX := Lib.hid (HX.out _ (List.getElem_mem hlt))
      clear hadb
      generalize l[k] = x at *
      have hb4 := (Below.refl wr.heap.size wr).alloc (Nat.le_refl _) (.cells #[.string (bstr x.item), .string (bstr x.frm), .string (bstr x.to), .int .i64 x.rnd] 43)
      have HB4 := Lib.hid (HB.out.trans (hb4.mono HB.out.size))
      have HX4 := Lib.hid (Blk.new wr 43 [.string (bstr x.item), .string (bstr x.frm), .string (bstr x.to), .int .i64 x.rnd])
      clear hb4 HB
      go_wp2_with fail
      clear c0 c1 c2 c3
      obtain ⟨bx, hbx⟩ : ∃ bx, wr.heap.size = bx := ⟨_, rfl⟩
      rw [hbx] at HX4 ⊢
      generalize wr.alloc (.cells #[.string (bstr x.item), .string (bstr x.frm), .string (bstr x.to), .int .i64 x.rnd] 43) = w4 at *
      clear hbx
      go_loopw [6, 17] (fun vn vi wr => ∃ (k2 n : Nat), k2 ≤ l.length ∧ vi = .int .i64 k2 ∧ vn = .int .i64 n ∧ n ≤ k2 ∧ Hid (cntR (l.take k2) x.frm x.rnd = n) ∧ Hid (Below w.heap.size w wr) ∧ Hid (Blk wr bx 43 [.string (bstr x.item), .string (bstr x.frm), .string (bstr x.to), .int .i64 x.rnd])) (fun _ vi _ => l.length - (intOf vi).toNat)
      case atStart => exact ⟨0, 0, by omega, rfl, rfl, by omega, rfl, HB4, HX4⟩
      case round =>
        clear HB4 HX4
        obtain ⟨k2, n, hk2, rfl, rfl, hn, HC, HB, HXB⟩ := hrel
        by_cases hlt2 : k2 < l.length
        · obtain ⟨ad2, c', e1, hadb, c0, c1, c2, c3, hy1, hy2, hy3, hy4⟩ := rpr_at (Rp.below _ H0.out HB.out) hlt2
          cases e1
          have HCT := Lib.hid (cntR_take hlt2 x.frm x.rnd)
          rw [HC.out] at HCT
          clear hadb HC
          generalize l[k2] = y at *
          have hb4 := (Below.refl wr.heap.size wr).alloc (Nat.le_refl _) (.cells #[.string (bstr y.item), .string (bstr y.frm), .string (bstr y.to), .int .i64 y.rnd] 43)
          have HB4 := Lib.hid (HB.out.trans (hb4.mono HB.out.size))
          have HX4 := Lib.hid (HXB.out.same (same_below hb4) HXB.out.lt)
          have hyb := Blk.new wr 43 [.string (bstr y.item), .string (bstr y.frm), .string (bstr y.to), .int .i64 y.rnd]
          have y1 : _ = some (Value.string (bstr y.frm)) := hyb.cell 1
          have y3 : _ = some (Value.int .i64 y.rnd) := hyb.cell 3
          have x1 : _ = some (Value.string (bstr x.frm)) := HX4.out.cell 1
          have x3 : _ = some (Value.int .i64 x.rnd) := HX4.out.cell 3
          clear hb4 hyb HB HXB
          by_cases hq : y.frm = x.frm
          · have b1 : ((bstr y.frm).toList == (bstr x.frm).toList) = true := str_beq (by rw [hq])
            by_cases hq2 : y.rnd = x.rnd
            · have b2 : (y.rnd == x.rnd) = true := by rw [hq2]; exact beq_self_eq_true _
              have HN := Lib.hid (show cntR (l.take (k2 + 1)) x.frm x.rnd = n + 1 by rw [HCT.out, if_pos ⟨hq, hq2⟩])
              clear hq HCT hq2
              go_wp2_with fail
              go_roundw
              case rel => exact ⟨k2 + 1, n + 1, by omega, by go_num, by go_num, by omega, HN, HB4, HX4⟩
              case measure => simp [intOf]; omega
            · have b2 : (y.rnd == x.rnd) = false := by rw [beq_eq_false_iff_ne]; exact hq2
              have HN := Lib.hid (show cntR (l.take (k2 + 1)) x.frm x.rnd = n by rw [HCT.out, if_neg (fun e => hq2 e.2)]; rfl)
              clear hq HCT hq2
              go_wp2_with fail
              all_goals
                go_roundw
                case rel => exact ⟨k2 + 1, n, by omega, by go_num, rfl, by omega, HN, HB4, HX4⟩
                case measure => simp [intOf]; omega
          · have b1 : ((bstr y.frm).toList == (bstr x.frm).toList) = false := str_bne (fun e => hq (bstr_inj e))
            have HN := Lib.hid (show cntR (l.take (k2 + 1)) x.frm x.rnd = n by rw [HCT.out, if_neg (fun e => hq e.1)]; rfl)
            clear hq HCT
            go_wp2_with fail
            go_roundw
            case rel => exact ⟨k2 + 1, n, by omega, by go_num, rfl, by omega, HN, HB4, HX4⟩
            case measure => simp [intOf]; omega
        · obtain rfl : k2 = l.length := by omega
          have hnm : n ≤ mx := by have := HMX.out; rw [← HC.out, List.take_length]; exact this
          go_wp2_with fail
          go_roundw
          case rel => exact ⟨k + 1, max m n, by omega, by go_num, by congr 1; omega, by omega, by omega, HB⟩
          case measure => simp [intOf]; omega
    · obtain rfl : k = l.length := by omega
      go_wp2_with fail
      go_ret
      exact ⟨⟨m, rfl, hm1⟩, HB.out⟩
end Go.Proofs.YtdklocgaimejgaaDoor
