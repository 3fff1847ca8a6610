/-
  Read of package rights.
-/
import Derived.Test.YtgilcllfdgdofaaGreatDoorRdR
import Derived.Test.YtgilcllfdgdofaaGreatDoorAlo
namespace Go.Proofs.YtgilcllfdgdofaaGreatDoor
open Go.RowKit
set_option linter.unusedVariables false
set_option linter.unusedSimpArgs false

def strLenR (v : Value) : Nat := match v with | .string b => b.size | _ => 0
theorem right_infoT : (Tryz.prog.info? 28).map (fun i => (i.zero, i.size, i.bytes)) = some (some (.agg #[.string ⟨#[]⟩, .string ⟨#[]⟩, .int .i64 0, .int .i64 0, .int .i64 0, .int .i64 0, .int .i64 0, .int .i64 0, .string ⟨#[]⟩]), 9, 96) := by kernel_rfl
theorem RrPost.none_ {text : List UInt8} {w w' : World} {i : Nat} {f : Int} (h : rrOut text = ([], i, f)) (hb : Below w.heap.size w w') : RrPost text w (.returned (.tuple #[.slice none 0 0, .int .i64 (i : Int), .int .i64 f])) w' :=
  ⟨_, by rw [h], by rw [h]; exact rgts_read (B := 0) (n := 0) (World.ownsRow_nil _ _ _ _) (fun s hs => absurd hs (by simp)), hb⟩
theorem RrPost.some_ {text : List UInt8} {w w' : World} {l : List Rgt} {v : Value} (h : rrOut text = (l, 0, 0)) (hr : (Rp.sl rgtRp).ok w' (· < w'.heap.size) [v] l) (hb : Below w.heap.size w w') : RrPost text w (.returned (.tuple #[v, .int .i64 0, .int .i64 0])) w' :=
  ⟨v, by rw [h]; rfl, by rw [h]; exact hr, hb⟩
theorem lineR_ok {s : List UInt8} {x : Rgt} (h : lineR s = some x) (hl : s.length ≤ 300000) : RgtOk x := by
  unfold lineR at h
  split at h
  · rename_i a b c d e f g hh i es
    split at h
    · rename_i ho
      injection h with h
      subst h
      exact mkR_ok es hl ho
    · cases h
  · cases h
set_option maxRecDepth 100000 in
set_option maxHeartbeats 16000000 in
theorem readRights_any (text : List UInt8) (w : World) (hG : GInt w) : Calls Tryz.prog 5 #[.string (bstr text)] w (RrPost text w) := by
  have HG := Lib.hid hG
  have hsz : (bstr text).size = text.length := rfl
  clear hG
  by_cases hl : 300000 < text.length
  · have hl' : (300000 : Int) < (text.length : Int) := by omega
    have HRM := Lib.hid (rr_large hl)
    go_enter Tryz.func5, Tryz.ntmps5
    go_wp2_with fail
    go_ret3
    exact RrPost.none_ (i := 0) HRM.out (Below.refl _ _)
  have hl' : ¬ (300000 : Int) < (text.length : Int) := by omega
  have HL := Lib.hid hl
  have hlt : text.length ≤ 300000 := by omega
  clear hl
  go_enter Tryz.func5, Tryz.ntmps5
  go_wp2_with fail
  go_loopw [0, 5, 6] (fun vt vr vi wr => ∃ (l : List Rgt) (rest : List UInt8), vt = .string (bstr rest) ∧ vi = .int .i64 ((l.length : Int) + 1) ∧ Hid (At text l rest) ∧ Hid (wr.ownsRow w.heap.size 28 9 vr l.length (l.flatMap rgtCells)) ∧ Hid (∀ x ∈ l, RgtOk x) ∧ Hid (Below w.heap.size w wr)) (fun vt _ _ _ => strLenR vt)
  case atStart => exact ⟨[], text, rfl, rfl, Lib.hid (At.start text), World.ownsRow_nil _ _ _ _, Lib.hid (fun x hx => absurd hx (by simp)), Below.refl _ _⟩
  case round =>
    obtain ⟨l, rest, rfl, rfl, HAT, HO, HOK, HB⟩ := hrel
    have hlr : l.length + rest.length ≤ 300000 := by have := HAT.out.1; omega
    by_cases hr : rest = []
    · subst hr
      have HRD := Lib.hid HAT.out.done
      have hem0 : (bstr ([] : List UInt8)).toList.isEmpty = true := by rw [bstr_toList]; rfl
      have HRR := Lib.hid (rgts_read HO.out HOK.out)
      have HAL := Lib.hid (alone_any _ l wr HRR.out)
      clear HAT hlr
      go_wp2_with fail
      refine HAL.out.mono ?_
      rintro e w7 ⟨rfl, hb7⟩
      have HB7 := Lib.hid (ext_trans HB.out hb7)
      have HR7 := Lib.hid (Rp.ext _ HRR.out hb7)
      clear HAL hb7 HB HRR HO
      by_cases hp : aloFault l = 0
      case neg =>
        have HPK := Lib.hid hp
        have hn : (aloFault l != 0) = true := by simpa using hp
        clear hp
        have HRP := Lib.hid (rr_alo HL.out HRD.out HPK.out)
        generalize aloFault l = pf at *
        go_wp2_with fail
        go_ret3
        exact RrPost.none_ (i := 0) HRP.out HB7.out
      have HRP := Lib.hid (rr_ok HL.out HRD.out hp)
      rw [hp]
      clear hp
      go_wp2_with fail
      go_ret3
      exact RrPost.some_ HRP.out HR7.out HB7.out
    have hem : (bstr rest).toList.isEmpty = false := by
      rw [bstr_toList]; cases hq : rest with | nil => exact absurd hq hr | cons _ _ => rfl
    have HCUT := Lib.hid (cut_any rest wr (HG.out.ext HB.out) (by omega))
    rcases sp_cases 10 rest with hc | ⟨s, r, hsr, hc⟩
    · have HRD := Lib.hid (HAT.out.cut hr hc)
      rw [cut_none hc] at HCUT
      have HCC := Lib.hid hc
      clear hr hc HAT
      dsimp only at HCUT
      go_wp2_with fail
      refine HCUT.out.mono ?_
      rintro e w3 ⟨rfl, n3, hw3⟩
      have hb3 : Below wr.heap.size wr w3 := by rw [hw3]; exact below_drewN (Below.refl _ _) n3
      have HB3 := Lib.hid (ext_trans HB.out hb3)
      have HRL := Lib.hid (readRight_any rest w3 (HG.out.ext HB3.out) (by omega))
      clear HCUT hw3 hb3 HB HO
      go_wp2_with fail
      refine HRL.out.mono ?_
      rintro e w5 ⟨x, ok, rfl, hb5, _, _⟩
      have HB5 := Lib.hid ((ext_trans HB3.out hb5).alloc (ext_trans HB3.out hb5).size (.cells #[.string (bstr x.id), .string (bstr x.pre), .int .i64 x.frm, .int .i64 x.to, .int .i64 x.st, .int .i64 x.en, .int .i64 x.made, .int .i64 x.kind, .string (bstr x.team)] 28))
      clear hb5 HRL HB3
      have hcs : (rgtCells x).toArray = #[.string (bstr x.id), .string (bstr x.pre), .int .i64 x.frm, .int .i64 x.to, .int .i64 x.st, .int .i64 x.en, .int .i64 x.made, .int .i64 x.kind, .string (bstr x.team)] := rfl
      rw [hcs]
      clear hcs
      cases ok
      · have HPP : Hid (RrPost text w (.returned (.tuple #[.slice none 0 0, .int .i64 ((l.length : Int) + 1), .int .i64 10])) (w5.alloc (.cells #[.string (bstr x.id), .string (bstr x.pre), .int .i64 x.frm, .int .i64 x.to, .int .i64 x.st, .int .i64 x.en, .int .i64 x.made, .int .i64 x.kind, .string (bstr x.team)] 28))) := Lib.hid (RrPost.none_ (i := l.length + 1) (rr_syn HL.out HRD.out) HB5.out)
        go_wp2_with fail
        go_ret3
        exact HPP.out
      · have HPP : Hid (RrPost text w (.returned (.tuple #[.slice none 0 0, .int .i64 ((l.length : Int) + 1), .int .i64 10])) (w5.alloc (.cells #[.string (bstr x.id), .string (bstr x.pre), .int .i64 x.frm, .int .i64 x.to, .int .i64 x.st, .int .i64 x.en, .int .i64 x.made, .int .i64 x.kind, .string (bstr x.team)] 28))) := Lib.hid (RrPost.none_ (i := l.length + 1) (rr_syn HL.out HRD.out) HB5.out)
        go_wp2_with fail
        go_ret3
        exact HPP.out
    · rw [hsr] at HAT HCUT
      rw [cut_at hc] at HCUT
      have HC := Lib.hid hc
      have hsl : s.length + r.length + 1 = rest.length := by rw [hsr]; simp; omega
      have HSR := Lib.hid hsr
      clear hr hc hsr
      dsimp only at HCUT
      rw [← HSR.out] at HCUT
      go_wp2_with fail
      refine HCUT.out.mono ?_
      rintro e w3 ⟨rfl, n3, hw3⟩
      have hb3 : Below wr.heap.size wr w3 := by rw [hw3]; exact below_drewN (Below.refl _ _) n3
      have HB3 := Lib.hid (ext_trans HB.out hb3)
      have HO3 := Lib.hid (own_blwR HO.out hb3)
      have HRL := Lib.hid (readRight_any s w3 (HG.out.ext HB3.out) (by omega))
      clear HCUT hw3 hb3 HB HO
      go_wp2_with fail
      refine HRL.out.mono ?_
      rintro e w5 ⟨x, ok, rfl, hb5, hok1, hok2⟩
      have hba := (Below.refl w5.heap.size w5).alloc (Nat.le_refl _) (.cells #[.string (bstr x.id), .string (bstr x.pre), .int .i64 x.frm, .int .i64 x.to, .int .i64 x.st, .int .i64 x.en, .int .i64 x.made, .int .i64 x.kind, .string (bstr x.team)] 28)
      have HB5 := Lib.hid (ext_trans (ext_trans HB3.out hb5) hba)
      have HO5 := Lib.hid (own_blwR (own_blwR HO3.out hb5) hba)
      have HKX := Lib.hid (Blk.new w5 28 [.string (bstr x.id), .string (bstr x.pre), .int .i64 x.frm, .int .i64 x.to, .int .i64 x.st, .int .i64 x.en, .int .i64 x.made, .int .i64 x.kind, .string (bstr x.team)])
      clear hb5 HRL HB3 HO3 hba
      have hcs : (rgtCells x).toArray = #[.string (bstr x.id), .string (bstr x.pre), .int .i64 x.frm, .int .i64 x.to, .int .i64 x.st, .int .i64 x.en, .int .i64 x.made, .int .i64 x.kind, .string (bstr x.team)] := rfl
      rw [hcs]
      clear hcs
      cases ok with
      | false =>
        have HRD := Lib.hid (HAT.out.bad HC.out (hok2 rfl))
        clear hok1 hok2 HKX HO5 HAT
        have HPP : Hid (RrPost text w (.returned (.tuple #[.slice none 0 0, .int .i64 ((l.length : Int) + 1), .int .i64 10])) (w5.alloc (.cells #[.string (bstr x.id), .string (bstr x.pre), .int .i64 x.frm, .int .i64 x.to, .int .i64 x.st, .int .i64 x.en, .int .i64 x.made, .int .i64 x.kind, .string (bstr x.team)] 28))) := Lib.hid (RrPost.none_ (i := l.length + 1) (rr_syn HL.out HRD.out) HB5.out)
        go_wp2_with fail
        go_ret3
        exact HPP.out
      | true =>
        have hyes := hok1 rfl
        have HAT2 := Lib.hid (HAT.out.next HC.out hyes)
        have HOK2 : Hid (∀ y ∈ l ++ [x], RgtOk y) := Lib.hid (fun y hy => by
          rcases List.mem_append.1 hy with h | h
          · exact HOK.out y h
          · rw [List.mem_singleton.1 h]; exact lineR_ok hyes (by omega))
        clear hok1 hok2 hyes HAT HSR HC
        have hle5 : w.heap.size ≤ (w5.alloc (.cells #[.string (bstr x.id), .string (bstr x.pre), .int .i64 x.frm, .int .i64 x.to, .int .i64 x.st, .int .i64 x.en, .int .i64 x.made, .int .i64 x.kind, .string (bstr x.team)] 28)).heap.size := HB5.out.size
        have x0 := HKX.out.cell 0
        have x1 := HKX.out.cell 1
        have x2 := HKX.out.cell 2
        have x3 := HKX.out.cell 3
        have x4 := HKX.out.cell 4
        have x5 := HKX.out.cell 5
        have x6 := HKX.out.cell 6
        have x7 := HKX.out.cell 7
        have x8 := HKX.out.cell 8
        simp only [List.getElem?_cons_zero, List.getElem?_cons_succ] at x0 x1 x2 x3 x4 x5 x6 x7 x8
        go_wp2_with (at_builtin; go_must (refine app_new (w := w5.alloc (.cells #[.string (bstr x.id), .string (bstr x.pre), .int .i64 x.frm, .int .i64 x.to, .int .i64 x.st, .int .i64 x.en, .int .i64 x.made, .int .i64 x.kind, .string (bstr x.team)] 28)) rfl (.tmp 38) (.tmp 40) 22 rfl 28 (.agg #[.string ⟨#[]⟩, .string ⟨#[]⟩, .int .i64 0, .int .i64 0, .int .i64 0, .int .i64 0, .int .i64 0, .int .i64 0, .string ⟨#[]⟩]) 9 96 Tryz.underlying22 right_infoT rfl (by decide) (m := 1) [.string (bstr x.id), .string (bstr x.pre), .int .i64 x.frm, .int .i64 x.to, .int .i64 x.st, .int .i64 x.en, .int .i64 x.made, .int .i64 x.kind, .string (bstr x.team)] HO5.out hle5 rfl (by rw [World.size_alloc]; rfl) rfl (by decide) (by simp [Value.oneCell']) (by unfold maxLen; omega) (by omega) ?_); intro g8 c8 w8 HO8 HG8 HE8 HL8)
        have HB8 := Lib.hid (HE8.out _ HB5.out)
        have hO := HO8.out
        have hfl : (l ++ [x]).flatMap rgtCells = l.flatMap rgtCells ++ [.string (bstr x.id), .string (bstr x.pre), .int .i64 x.frm, .int .i64 x.to, .int .i64 x.st, .int .i64 x.en, .int .i64 x.made, .int .i64 x.kind, .string (bstr x.team)] := by rw [List.flatMap_append, List.flatMap_singleton]; rfl
        rw [← hfl] at hO
        have HO9 := Lib.hid hO
        have hll : (l ++ [x]).length = l.length + 1 := by simp
        rw [← hll] at HO9
        clear hO HO8 HG8 HE8 HL8 HO5 HB5 hfl HKX x0 x1 x2 x3 x4 x5 x6 x7 x8
        go_roundw
        case rel => first | exact ⟨l ++ [x], r, rfl, by rw [hll]; first | rfl | (push_cast; rfl) | go_num, HAT2, by first | exact HO9 | (rw [hll] at HO9; exact HO9) | (rw [hll]; rw [hll] at HO9; exact HO9), HOK2, HB8⟩ | (repeat (apply Exists.intro); (refine And.intro ?_ ?_; rotate_left; (repeat' (first | exact rfl | apply And.intro)); exact ⟨l ++ [x], r, rfl, by rw [hll]; first | rfl | (push_cast; rfl) | go_num, HAT2, by first | exact HO9 | (rw [hll] at HO9; exact HO9) | (rw [hll]; rw [hll] at HO9; exact HO9), HOK2, HB8⟩))
        case measure => show (bstr r).size < (bstr rest).size; rw [bstr_size, bstr_size]; omega
end Go.Proofs.YtgilcllfdgdofaaGreatDoor
