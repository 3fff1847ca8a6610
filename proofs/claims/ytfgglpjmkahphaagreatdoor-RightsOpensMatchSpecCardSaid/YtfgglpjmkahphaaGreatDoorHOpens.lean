/-
  'Opens' of the reference of chapter 10.
-/
import Derived.Test.YtfgglpjmkahphaaGreatDoorTurns
namespace Go.Proofs.YtfgglpjmkahphaaGreatDoor
open Go.RowKit
set_option linter.unusedVariables false
set_option linter.unusedSimpArgs false

set_option maxRecDepth 100000 in
set_option maxHeartbeats 4000000 in
theorem hOpens_any (vt : Value) (t : List Team) (v : Value) (l : List Rgt) (who : List UInt8) (house : Bool) (c : Cap) (at_ : Int) (w : World) (ht : (Rp.sl teamRp).ok w (· < w.heap.size) [vt] t) (h0 : (Rp.sl rgtRp).ok w (· < w.heap.size) [v] l) (hck : c.key.length ≤ 9223372036854775807) (hwl : who.length ≤ 9223372036854775807) :
    Calls Tryz.prog 6 #[vt, v, .agg #[.string (bstr who), .bool house], .agg #[.string (bstr c.key), .int .i64 c.time], .int .i64 at_] w (OpensPost t l who house c at_ w) := by
  have HT := Lib.hid ht
  have H0 := Lib.hid h0
  clear ht h0
  have hl0 := (Below.refl w.heap.size _).alloc (Nat.le_refl _) (.cells #[.string (bstr who), .bool house] 25)
  have hl1 := (Below.refl (w.alloc (.cells #[.string (bstr who), .bool house] 25)).heap.size _).alloc (Nat.le_refl _) (.cells #[.string (bstr c.key), .int .i64 c.time] 27)
  have HBA : Hid (Below w.heap.size w ((w.alloc (.cells #[.string (bstr who), .bool house] 25)).alloc (.cells #[.string (bstr c.key), .int .i64 c.time] 27))) := Lib.hid ((hl0).trans (hl1.mono (by simp <;> omega)))
  have hk0 : Blk ((w.alloc (.cells #[.string (bstr who), .bool house] 25)).alloc (.cells #[.string (bstr c.key), .int .i64 c.time] 27)) (w.heap.size) 25 [.string (bstr who), .bool house] := by
    have h := (Blk.new w 25 [.string (bstr who), .bool house]).same (same_below hl1) (by simp <;> omega)
    simpa only [World.size_alloc] using h
  have HKVA := Lib.hid hk0
  have hk1 : Blk ((w.alloc (.cells #[.string (bstr who), .bool house] 25)).alloc (.cells #[.string (bstr c.key), .int .i64 c.time] 27)) (w.heap.size + 1) 27 [.string (bstr c.key), .int .i64 c.time] := by
    have h := Blk.new (w.alloc (.cells #[.string (bstr who), .bool house] 25)) 27 [.string (bstr c.key), .int .i64 c.time]
    simpa only [World.size_alloc] using h
  have HKCA := Lib.hid hk1
  clear hl0 hk0 hl1 hk1
  go_enter Tryz.func6, Tryz.ntmps6
  have m0 : ((w.alloc (.cells #[.string (bstr who), .bool house] 25)).alloc (.cells #[.string (bstr c.key), .int .i64 c.time] 27)).cell? ⟨w.heap.size, 0, none⟩ = some (.string (bstr who)) := HKVA.out.cell 0
  have m1 : ((w.alloc (.cells #[.string (bstr who), .bool house] 25)).alloc (.cells #[.string (bstr c.key), .int .i64 c.time] 27)).cell? ⟨w.heap.size, 1, none⟩ = some (.bool house) := HKVA.out.cell 1
  have c0 : ((w.alloc (.cells #[.string (bstr who), .bool house] 25)).alloc (.cells #[.string (bstr c.key), .int .i64 c.time] 27)).cell? ⟨w.heap.size + 1, 0, none⟩ = some (.string (bstr c.key)) := HKCA.out.cell 0
  have c1 : ((w.alloc (.cells #[.string (bstr who), .bool house] 25)).alloc (.cells #[.string (bstr c.key), .int .i64 c.time] 27)).cell? ⟨w.heap.size + 1, 1, none⟩ = some (.int .i64 c.time) := HKCA.out.cell 1
  go_wp2_with fail
  clear m0 m1 c0 c1
  generalize ((w.alloc (.cells #[.string (bstr who), .bool house] 25)).alloc (.cells #[.string (bstr c.key), .int .i64 c.time] 27)) = wA at *
  refine (askViewer_any vt t v l who house c wA (Rp.ext _ HT.out HBA.out) (Rp.ext _ H0.out HBA.out) hck hwl).mono ?_
  rintro e w3 ⟨rfl, hb⟩
  have HB3 := Lib.hid (HBA.out.trans (hb.mono HBA.out.size))
  have HKV3 := Lib.hid (HKVA.out.same (same_below hb) HKVA.out.lt)
  have HKC3 := Lib.hid (HKCA.out.same (same_below hb) HKCA.out.lt)
  clear hb HBA HKVA HKCA
  by_cases hf : askF t l who c = 0
  case neg =>
    have HF : Hid (opF t l who c at_ = askF t l who c) := Lib.hid (if_pos hf)
    have HN := Lib.hid hf
    have hn : (askF t l who c != 0) = true := by simpa using hf
    clear hf
    generalize hfe : askF t l who c = f at *
    have HFE := Lib.hid hfe
    clear hfe
    go_wp2_with fail
    go_ret2
    exact ⟨0, by rw [HF.out]; rfl, fun h => absurd (HF.out.symm.trans h) HN.out, fun _ => rfl, HB3.out⟩
  obtain ⟨htf, hTG, hRG⟩ := ask_good hf
  have HRG := Lib.hid hRG
  have HTG := Lib.hid hTG
  have HTF := Lib.hid htf
  have hm := hRG.len
  clear hTG hRG htf
  have HR : Hid (opF t l who c at_ = if withinB at_ 0 253402300799 = false then 1 else 0) := Lib.hid (if_neg (by rw [hf]; decide))
  rw [hf]
  clear hf
  go_wp2_with fail
  refine (hwithin_any at_ 0 253402300799 _).mono ?_
  rintro e w3 ⟨rfl, rfl⟩
  cases hq : withinB at_ 0 253402300799 with
  | false =>
    have HF : Hid (opF t l who c at_ = 1) := Lib.hid (HR.out.trans (if_pos hq))
    clear hq HR
    go_wp2_with fail
    go_ret2
    exact ⟨0, by rw [HF.out]; rfl, fun h => absurd (HF.out.symm.trans h) (by decide), fun _ => rfl, HB3.out⟩
  | true =>
    have HF : Hid (opF t l who c at_ = 0) := Lib.hid (HR.out.trans (if_neg (by rw [hq]; decide)))
    have hra : 0 ≤ at_ ∧ at_ ≤ 253402300799 := of_decide_eq_true hq
    clear hq HR
    have m0 : w3.cell? ⟨w.heap.size, 0, none⟩ = some (.string (bstr who)) := HKV3.out.cell 0
    have m1 : w3.cell? ⟨w.heap.size, 1, none⟩ = some (.bool house) := HKV3.out.cell 1
    have c0 : w3.cell? ⟨w.heap.size + 1, 0, none⟩ = some (.string (bstr c.key)) := HKC3.out.cell 0
    have c1 : w3.cell? ⟨w.heap.size + 1, 1, none⟩ = some (.int .i64 c.time) := HKC3.out.cell 1
    go_wp2_with fail
    clear m0 m1 c0 c1
    refine (hMay_any vt t v l who house c at_ w3 (Rp.ext _ HT.out HB3.out) (Rp.ext _ H0.out HB3.out) HTG.out HRG.out hck).mono ?_
    rintro e w5 ⟨rfl, hb⟩
    have HB5 := Lib.hid (HB3.out.trans (hb.mono HB3.out.size))
    have HKV5 := Lib.hid (HKV3.out.same (same_below hb) HKV3.out.lt)
    have HKC5 := Lib.hid (HKC3.out.same (same_below hb) HKC3.out.lt)
    clear hb HB3 HKV3 HKC3
    cases hqa : mayB t l who house c at_ with
    | true =>
      have HI : Hid (IsOpen (mayB t l who house c) at_ 253402300799 at_) := Lib.hid (.inr ⟨Int.le_refl _, hra.2, hqa, fun m h1 h2 => by omega⟩)
      clear hqa
      go_wp2_with fail
      go_ret2
      exact ⟨at_, by rw [HF.out]; rfl, fun _ => HI.out, fun h => absurd HF.out h, HB5.out⟩
    | false =>
      have HPA := Lib.hid hqa
      clear hqa
      go_wp2_with fail
      refine (turns_any v l w5 (Rp.ext _ H0.out HB5.out) (by omega)).mono ?_
      rintro e w7 ⟨ve, ts, rfl, ho, hpw, hmem, hel, hb⟩
      have HB7 := Lib.hid (HB5.out.trans (hb.mono HB5.out.size))
      have HO7 := Lib.hid ho
      have HPW := Lib.hid hpw
      have HKV7 := Lib.hid (HKV5.out.same (same_below hb) HKV5.out.lt)
      have HKC7 := Lib.hid (HKC5.out.same (same_below hb) HKC5.out.lt)
      have HST : Hid (Steps (mayB t l who house c) 253402300799 (at_ :: ts) at_) := Lib.hid (steps_of (fun n h1 h2 h3 => List.mem_cons_of_mem _ ((hmem n).2 (brk_tur h1))))
      obtain ⟨Ae, ce, hve, hce1, hce2, _⟩ := own_form ho
      subst hve
      clear hb ho hpw hmem HB5 HKV5 HKC5
      go_wp2_with fail
      go_loopw [36] (fun vi wr => ∃ k : Nat, k ≤ ts.length ∧ vi = .int .i64 k ∧ Hid (∀ j, (hj : j < ts.length) → j < k → at_ < ts[j] → ts[j] ≤ 253402300799 → mayB t l who house c ts[j] = false) ∧ Hid (Below w7.heap.size w7 wr)) (fun vi _ => ts.length - (intOf vi).toNat)
      case atStart => exact ⟨0, by omega, rfl, Lib.hid (fun j hj h => absurd h (by omega)), Below.refl _ _⟩
      case round =>
        obtain ⟨k, hk, rfl, HP, HBR⟩ := hrel
        have HBZ := Lib.hid (HB7.out.trans (HBR.out.mono HB7.out.size))
        by_cases hlt : k < ts.length
        · have hown := own_below HO7.out HBR.out
          have e0 : ∃ g, Ae = some ⟨g, 0, none⟩ ∧ wr.cell? ⟨g, k, none⟩ = some (.int .i64 ts[k]) := by
            rcases hown.2 with ⟨h1, h2⟩ | ⟨g, cap, cur, h1, _⟩
            · omega
            · injection h1 with h1 _ _
              subst h1
              refine ⟨g, rfl, ?_⟩
              rw [hown.cellAt k (by omega)]
              simp [hlt]
          obtain ⟨g, rfl, e0⟩ := e0
          clear hown
          have HYES : Hid (at_ < ts[k] → ts[k] ≤ 253402300799 → mayB t l who house c ts[k] = true → IsOpen (mayB t l who house c) at_ 253402300799 ts[k]) := Lib.hid (fun h1 h2 h3 => open_of HST.out (by simp) (.inr ⟨by omega, h2, h3, fun n hn h4 h5 => by
            rcases List.mem_cons.1 hn with e | e
            · rw [e]; exact HPA.out
            · by_cases en : n = at_
              · rw [en]; exact HPA.out
              · obtain ⟨j, hj, rfl⟩ := List.mem_iff_getElem.1 e
                exact HP.out j hj (lt_of_pw HPW.out hj hlt h5) (by omega) (by omega)⟩))
          have HNO : Hid ((at_ < ts[k] → ts[k] ≤ 253402300799 → mayB t l who house c ts[k] = false) → ∀ j, (hj : j < ts.length) → j < k + 1 → at_ < ts[j] → ts[j] ≤ 253402300799 → mayB t l who house c ts[j] = false) := Lib.hid (fun h j hj hjk => by
            rcases Nat.lt_or_eq_of_le (Nat.lt_succ_iff.1 hjk) with e | e
            · exact HP.out j hj e
            · subst e; exact h)
          have HMAK := Lib.hid (hMay_any vt t v l who house c ts[k] wr (Rp.ext _ HT.out HBZ.out) (Rp.ext _ H0.out HBZ.out) HTG.out HRG.out hck)
          have HKV8 := HKV7.out.same (same_below HBR.out) HKV7.out.lt
          have HKC8 := HKC7.out.same (same_below HBR.out) HKC7.out.lt
          have m0 : wr.cell? ⟨w.heap.size, 0, none⟩ = some (.string (bstr who)) := HKV8.cell 0
          have m1 : wr.cell? ⟨w.heap.size, 1, none⟩ = some (.bool house) := HKV8.cell 1
          have c0 : wr.cell? ⟨w.heap.size + 1, 0, none⟩ = some (.string (bstr c.key)) := HKC8.cell 0
          have c1 : wr.cell? ⟨w.heap.size + 1, 1, none⟩ = some (.int .i64 c.time) := HKC8.cell 1
          clear HKC8 HKV8
          generalize ts[k] = n at *
          by_cases hq1 : at_ < n
          · by_cases hq2 : n ≤ 253402300799
            · go_wp2_with fail
              refine HMAK.out.mono ?_
              rintro e w8 ⟨rfl, hb⟩
              have HB8 := Lib.hid (HBR.out.trans (hb.mono HBR.out.size))
              clear hb c0 c1 m0 m1 e0
              cases hq : mayB t l who house c n with
              | true =>
                have HI := Lib.hid (HYES.out hq1 hq2 hq)
                clear hq
                go_wp2_with fail
                go_ret2
                exact ⟨n, by rw [HF.out]; rfl, fun _ => HI.out, fun h => absurd HF.out h, HB7.out.trans (HB8.out.mono HB7.out.size)⟩
              | false =>
                have HN := Lib.hid (HNO.out (fun _ _ => hq))
                clear hq
                go_wp2_with fail
                go_roundw
                case rel => first | exact ⟨k + 1, by omega, by go_num, HN, HB8⟩ | (repeat (apply Exists.intro); (refine And.intro ?_ ?_; rotate_left; (repeat' (first | exact rfl | apply And.intro)); exact ⟨k + 1, by omega, by go_num, HN, HB8⟩))
                case measure => simp [intOf]; omega
            · have HN := Lib.hid (HNO.out (fun _ h => absurd h hq2))
              clear HYES HNO
              go_wp2_with fail
              go_roundw
              case rel => first | exact ⟨k + 1, by omega, by go_num, HN, HBR⟩ | (repeat (apply Exists.intro); (refine And.intro ?_ ?_; rotate_left; (repeat' (first | exact rfl | apply And.intro)); exact ⟨k + 1, by omega, by go_num, HN, HBR⟩))
              case measure => simp [intOf]; omega
          · have HN := Lib.hid (HNO.out (fun h => absurd h hq1))
            clear HYES HNO
            go_wp2_with fail
            go_roundw
            case rel => first | exact ⟨k + 1, by omega, by go_num, HN, HBR⟩ | (repeat (apply Exists.intro); (refine And.intro ?_ ?_; rotate_left; (repeat' (first | exact rfl | apply And.intro)); exact ⟨k + 1, by omega, by go_num, HN, HBR⟩))
            case measure => simp [intOf]; omega
        · obtain rfl : k = ts.length := by omega
          have HI : Hid (IsOpen (mayB t l who house c) at_ 253402300799 (-1)) := Lib.hid (open_of HST.out (by simp) (.inl ⟨rfl, fun n hn h4 h5 => by
            rcases List.mem_cons.1 hn with e | e
            · rw [e]; exact HPA.out
            · by_cases en : n = at_
              · rw [en]; exact HPA.out
              · obtain ⟨j, hj, rfl⟩ := List.mem_iff_getElem.1 e
                exact HP.out j hj hj (by omega) h5⟩))
          go_wp2_with fail
          go_ret2
          exact ⟨-1, by rw [HF.out]; rfl, fun _ => HI.out, fun h => absurd HF.out h, HBZ.out⟩
end Go.Proofs.YtfgglpjmkahphaaGreatDoor
