/-
  'Spans' of the reference of chapter 10.
-/
import Derived.Test.YtfgglpjmkahphaaGreatDoorTurns
namespace Go.Proofs.YtfgglpjmkahphaaGreatDoor
open Go.RowKit
set_option linter.unusedVariables false
set_option linter.unusedSimpArgs false

theorem part_same2 {p : Int → Bool} {es : List Int} {M : Int} (hs : Steps p M es 0) (hpw : es.Pairwise (· < ·)) {k : Nat} (hk : k < es.length) (h0 : 0 ≤ es[k]) (hkM : es[k] ≤ M) {nx : Int} (hn : nx = min (if h : k + 1 < es.length then es[k + 1] else M + 1) (M + 1)) : es[k] < nx ∧ nx ≤ M + 1 ∧ ∀ m, es[k] ≤ m → m < nx → p m = p es[k] := by
  have hgap : ∀ n ∈ es, es[k] < n → nx ≤ n := by
    intro n hn' hl
    obtain ⟨j, hj, rfl⟩ := List.mem_iff_getElem.1 hn'
    have hkj := lt_of_pw hpw hk hj hl
    rw [dif_pos (by omega)] at hn
    have : es[k + 1] ≤ es[j] := by
      rcases Nat.lt_or_eq_of_le (show k + 1 ≤ j by omega) with e | e
      · exact Int.le_of_lt (List.pairwise_iff_getElem.1 hpw (k + 1) j (by omega) hj e)
      · subst e; exact Int.le_refl _
    omega
  have hb : es[k] < nx ∧ nx ≤ M + 1 := by
    split at hn
    · rename_i h
      have h1 := List.pairwise_iff_getElem.1 hpw k (k + 1) hk h (by omega)
      omega
    · omega
  exact ⟨hb.1, hb.2, fun m h1 h2 => (hs es[k] m h0 h1 (by omega) (fun n hn' h3 h4 => by have := hgap n hn' h3; omega)).symm⟩
theorem rg_ranges {r : Rgt} (h : rgF r = 0) : (0 ≤ r.st ∧ r.st ≤ 253402300800) ∧ (0 ≤ r.made ∧ r.made ≤ 253402300800) ∧ (0 ≤ r.en ∧ r.en ≤ 253402300800) := by
  unfold rgF at h
  split at h
  · cases h
  · split at h
    · cases h
    · unfold rgRest at h
      split at h
      · cases h
      · rename_i h1
        have hq : rgRange r = true := by simpa using h1
        unfold rgRange at hq
        simp only [Bool.and_eq_true] at hq
        obtain ⟨_, q2, q3, _, q5⟩ := hq
        have q2 : 0 ≤ r.st ∧ r.st ≤ 253402300799 := of_decide_eq_true q2
        have q3 : 0 ≤ r.made ∧ r.made ≤ 253402300799 := of_decide_eq_true q3
        have q5 : 0 ≤ r.en ∧ r.en ≤ 253402300800 := of_decide_eq_true q5
        omega
set_option maxRecDepth 100000 in
set_option maxHeartbeats 4000000 in
theorem hSpans_any (vt : Value) (t : List Team) (v : Value) (l : List Rgt) (who : List UInt8) (house : Bool) (c : Cap) (w : World) (ht : (Rp.sl teamRp).ok w (· < w.heap.size) [vt] t) (h0 : (Rp.sl rgtRp).ok w (· < w.heap.size) [v] l) (hck : c.key.length ≤ 9223372036854775807) (hwl : who.length ≤ 9223372036854775807) :
    Calls Tryz.prog 8 #[vt, v, .agg #[.string (bstr who), .bool house], .agg #[.string (bstr c.key), .int .i64 c.time]] w (SpansPost t l who house c w) := by
  have HT := Lib.hid ht
  have H0 := Lib.hid h0
  clear ht h0
  have hl0 := (Below.refl w.heap.size _).alloc (Nat.le_refl _) (.cells #[.string (bstr who), .bool house] 25)
  have hl1 := (Below.refl (w.alloc (.cells #[.string (bstr who), .bool house] 25)).heap.size _).alloc (Nat.le_refl _) (.cells #[.string (bstr c.key), .int .i64 c.time] 27)
  have HBA : Hid (Below w.heap.size w ((w.alloc (.cells #[.string (bstr who), .bool house] 25)).alloc (.cells #[.string (bstr c.key), .int .i64 c.time] 27))) := Lib.hid ((hl0).trans (hl1.mono (by simp <;> omega)))
  have hk0 : Blk ((w.alloc (.cells #[.string (bstr who), .bool house] 25)).alloc (.cells #[.string (bstr c.key), .int .i64 c.time] 27)) (w.heap.size) 25 [.string (bstr who), .bool house] := by
    have h := (Blk.new w 25 [.string (bstr who), .bool house]).same (same_below hl1) (by simp <;> omega)
    simpa only [World.size_alloc] using h
  have HKVA := Lib.hid hk0
  have hk1 : Blk ((w.alloc (.cells #[.string (bstr who), .bool house] 25)).alloc (.cells #[.string (bstr c.key), .int .i64 c.time] 27)) (w.heap.size + 1) 27 [.string (bstr c.key), .int .i64 c.time] := by
    have h := Blk.new (w.alloc (.cells #[.string (bstr who), .bool house] 25)) 27 [.string (bstr c.key), .int .i64 c.time]
    simpa only [World.size_alloc] using h
  have HKCA := Lib.hid hk1
  clear hl0 hk0 hl1 hk1
  go_enter Tryz.func8, Tryz.ntmps8
  have m0 : ((w.alloc (.cells #[.string (bstr who), .bool house] 25)).alloc (.cells #[.string (bstr c.key), .int .i64 c.time] 27)).cell? ⟨w.heap.size, 0, none⟩ = some (.string (bstr who)) := HKVA.out.cell 0
  have m1 : ((w.alloc (.cells #[.string (bstr who), .bool house] 25)).alloc (.cells #[.string (bstr c.key), .int .i64 c.time] 27)).cell? ⟨w.heap.size, 1, none⟩ = some (.bool house) := HKVA.out.cell 1
  have c0 : ((w.alloc (.cells #[.string (bstr who), .bool house] 25)).alloc (.cells #[.string (bstr c.key), .int .i64 c.time] 27)).cell? ⟨w.heap.size + 1, 0, none⟩ = some (.string (bstr c.key)) := HKCA.out.cell 0
  have c1 : ((w.alloc (.cells #[.string (bstr who), .bool house] 25)).alloc (.cells #[.string (bstr c.key), .int .i64 c.time] 27)).cell? ⟨w.heap.size + 1, 1, none⟩ = some (.int .i64 c.time) := HKCA.out.cell 1
  go_wp2_with fail
  clear m0 m1 c0 c1
  generalize ((w.alloc (.cells #[.string (bstr who), .bool house] 25)).alloc (.cells #[.string (bstr c.key), .int .i64 c.time] 27)) = wA at *
  refine (askViewer_any vt t v l who house c wA (Rp.ext _ HT.out HBA.out) (Rp.ext _ H0.out HBA.out) hck hwl).mono ?_
  rintro e w3 ⟨rfl, hb⟩
  have HB3 := Lib.hid (HBA.out.trans (hb.mono HBA.out.size))
  have HKV3 := Lib.hid (HKVA.out.same (same_below hb) HKVA.out.lt)
  have HKC3 := Lib.hid (HKCA.out.same (same_below hb) HKCA.out.lt)
  clear hb HBA HKVA HKCA
  by_cases hf : askF t l who c = 0
  case neg =>
    have HN := Lib.hid hf
    have hn : (askF t l who c != 0) = true := by simpa using hf
    clear hf
    generalize hfe : askF t l who c = f at *
    have HFE := Lib.hid hfe
    clear hfe
    go_wp2_with fail
    go_ret2
    exact ⟨_, [], by rw [HFE.out]; rfl, Rp.sl_nil _ _ _, fun h => absurd (HFE.out.symm.trans h) HN.out, fun _ => rfl, by simp, HB3.out⟩
  obtain ⟨htf, hTG, hRG⟩ := ask_good hf
  have HRG := Lib.hid hRG
  have HTG := Lib.hid hTG
  have HTF := Lib.hid htf
  have hm := hRG.len
  clear hTG hRG htf
  have HF : Hid (askF t l who c = 0) := Lib.hid hf
  rw [hf]
  clear hf
  go_wp2_with fail
  refine (turns_any v l w3 (Rp.ext _ H0.out HB3.out) (by omega)).mono ?_
  rintro e w7 ⟨ve, es, rfl, ho, hpw, hmem, hel, hb⟩
  have HB7 := Lib.hid (HB3.out.trans (hb.mono HB3.out.size))
  have HO7 := Lib.hid ho
  have HPW := Lib.hid hpw
  have HKV7 := Lib.hid (HKV3.out.same (same_below hb) HKV3.out.lt)
  have HKC7 := Lib.hid (HKC3.out.same (same_below hb) HKC3.out.lt)
  have HST : Hid (Steps (mayB t l who house c) 253402300799 es 0) := Lib.hid (steps_of (fun n h1 h2 h3 => (hmem n).2 (brk_tur h1)))
  have HRG0 : Hid (∀ n ∈ es, 0 ≤ n ∧ n ≤ 253402300800) := Lib.hid (fun n hn => by
    rcases (hmem n).1 hn with e | ⟨r, hr, e⟩
    · omega
    · obtain ⟨j, hj, rfl⟩ := List.mem_iff_getElem.1 hr
      have := rg_ranges (HRG.out.each j hj)
      rcases e with e | e | e <;> omega)
  have HES0 : Hid (∃ h : 0 < es.length, es[0] = 0) := Lib.hid (by
    obtain ⟨j, hj, hj0⟩ := List.mem_iff_getElem.1 ((hmem 0).2 (.inl rfl))
    refine ⟨by omega, ?_⟩
    by_cases e : j = 0
    · subst e; exact hj0
    · have h1 := List.pairwise_iff_getElem.1 hpw 0 j (by omega) hj (by omega)
      have h2 := HRG0.out _ (List.getElem_mem (show 0 < es.length by omega))
      omega)
  obtain ⟨hpos, hes0⟩ := HES0.out
  have HESZ := Lib.hid hes0
  have HW6 := Lib.hid HB3.out.size
  have hb7 : w3.heap.size ≤ w7.heap.size := hb.size
  clear hb ho hpw hmem HB3 HKC3 HKV3 HES0 hes0
  go_wp2_with (at_builtin; go_must (refine app_new (w := w7) rfl (.tmp 26) (.tmp 27) 54 rfl 3 (.int .i64 0) 1 8 Tryz.underlying54 int_info rfl (by decide) (m := 1) [.int .i64 253402300800] HO7.out hb7 rfl rfl rfl (by decide) (by simp [Value.oneCell']) (by unfold maxLen; omega) (by omega) ?_); intro g8 c8 w8 HO8 HG8 HE8 HL8)
  have HB8 := Lib.hid (HB7.out.grown HG8.out HB7.out.size (fun j hj => by have h1 := (HO7.out.lt j hj).1; have h2 := HW6.out; omega))
  have HKC8 := Lib.hid (HKC7.out.same (grown_same HG8.out) ⟨HKC7.out.lt, row_not_cap HKC7.out HO7.out⟩)
  have HKV8 := Lib.hid (HKV7.out.same (grown_same HG8.out) ⟨HKV7.out.lt, row_not_cap HKV7.out HO7.out⟩)
  have hg8 : g8 < w8.heap.size := (HO8.out.lt g8 rfl).2
  obtain ⟨nxt, hnxt⟩ : ∃ nxt : Nat → Int, ∀ k, nxt k = if h : k < es.length then es[k] else 253402300799 + 1 := ⟨fun k => if h : k < es.length then es[k] else 253402300799 + 1, fun _ => rfl⟩
  have HNX := Lib.hid hnxt
  have HCL : Hid (∀ k, k ≤ es.length → w8.cell? ⟨g8, k, none⟩ = some (.int .i64 (nxt k))) := Lib.hid (fun k hk => by
    rw [HO8.out.cellAt k (by omega), HNX.out]
    by_cases hkl : k < es.length
    · rw [dif_pos hkl, List.getElem?_append_left (by simpa using hkl)]; simp [hkl]
    · obtain rfl : k = es.length := by omega
      rw [dif_neg hkl, List.getElem?_append_right (by simp)]; simp)
  have HPART : Hid (∀ k, k < es.length → nxt k ≤ 253402300799 → 0 ≤ nxt k ∧ nxt k < min (nxt (k + 1)) 253402300800 ∧ ∀ m, nxt k ≤ m → m < min (nxt (k + 1)) 253402300800 → mayB t l who house c m = mayB t l who house c (nxt k)) := Lib.hid (fun k hk hM => by
    have h0 := HRG0.out _ (List.getElem_mem hk)
    have e : nxt k = es[k] := by rw [HNX.out, dif_pos hk]
    have h := part_same2 HST.out HPW.out hk h0.1 (by rw [← e]; exact hM) (nx := min (nxt (k + 1)) 253402300800) (by rw [HNX.out]; rfl)
    rw [e]
    exact ⟨h0.1, h.1, h.2.2⟩)
  have HINC : Hid (∀ k, k < es.length → nxt k ≤ nxt (k + 1)) := Lib.hid (fun k hk => by
    rw [HNX.out, HNX.out, dif_pos hk]
    split
    · rename_i h
      exact Int.le_of_lt (List.pairwise_iff_getElem.1 HPW.out k (k + 1) hk h (by omega))
    · have := HRG0.out _ (List.getElem_mem hk); omega)
  have HN0 : Hid (nxt 0 = 0) := Lib.hid (by rw [HNX.out, dif_pos hpos]; exact HESZ.out)
  have HNE : Hid (nxt es.length = 253402300800) := Lib.hid (by rw [HNX.out, dif_neg (by omega)]; rfl)
  clear hnxt HNX HESZ HRG0 HST HPW HO8 HG8 HE8 HL8 HO7 HB7 HKC7 HKV7 hpos
  generalize es.length = ne at *
  go_loopw [11, 31] (fun vo vi wr => ∃ (k : Nat) (xs : List (Int × Int)), k ≤ ne + 1 ∧ vi = .int .i64 k ∧ xs.length ≤ k ∧ Hid (wr.ownsRow w8.heap.size 36 2 vo xs.length (xs.flatMap stCells)) ∧ Hid (∀ j, j = min k ne → SpOk (mayB t l who house c) xs (min (nxt j) 253402300800)) ∧ Hid (Below w8.heap.size w8 wr)) (fun _ vi _ => ne + 1 - (intOf vi).toNat)
  case atStart => exact ⟨0, [], by omega, rfl, by simp, World.ownsRow_nil _ _ _ _, Lib.hid (fun j hj => by rw [hj, Nat.zero_min, HN0.out]; exact spOk_nil _), Below.refl _ _⟩
  case round =>
    obtain ⟨k, xs, hk, rfl, hxl, HO, HSP0, HBR⟩ := hrel
    obtain ⟨Ao, co, hvo, hco1, hco2, _⟩ := own_form HO.out
    subst hvo
    have HBZ := Lib.hid (HB8.out.trans (HBR.out.mono HB8.out.size))
    by_cases hlt : k < ne + 1
    · have e0 : wr.cell? ⟨g8, k, none⟩ = some (.int .i64 (nxt k)) := (HBR.out.cell (p := ⟨g8, k, none⟩) hg8).trans (HCL.out k (by omega))
      have hkI : (k : Int) < (ne : Int) + 1 := by omega
      by_cases hM : 253402300799 < nxt k
      · have HS : Hid (∀ j, j = min (k + 1) ne → SpOk (mayB t l who house c) xs (min (nxt j) 253402300800)) := Lib.hid (fun j hj => by
          by_cases e : k = ne
          · rw [hj, show min (k + 1) ne = ne by omega]
            have := HSP0.out ne (by omega)
            exact this
          · have h := HSP0.out k (by omega)
            have h2 := HINC.out k (by omega)
            rw [hj, show min (k + 1) ne = k + 1 by omega]
            rw [show min (nxt k) 253402300800 = min (nxt (k + 1)) 253402300800 by omega] at h
            exact h)
        clear HSP0
        generalize nxt k = n at *
        go_wp2_with fail
        go_roundw
        case rel => first | exact ⟨k + 1, xs, by omega, by go_num, by omega, HO, HS, HBR⟩ | (repeat (apply Exists.intro); (refine And.intro ?_ ?_; rotate_left; (repeat' (first | exact rfl | apply And.intro)); exact ⟨k + 1, xs, by omega, by go_num, by omega, HO, HS, HBR⟩))
        case measure => simp [intOf]; omega
      have hkne : k < ne := by
        rcases Nat.lt_or_eq_of_le (Nat.lt_succ_iff.1 hlt) with e | e
        · exact e
        · rw [e, HNE.out] at hM; exact absurd (by decide) hM
      have hM2 : nxt k ≤ 253402300799 := by omega
      obtain ⟨hn0, hnl, hcon⟩ := HPART.out k hkne hM2
      have HSP : Hid (SpOk (mayB t l who house c) xs (nxt k)) := Lib.hid (by
        have h := HSP0.out k (by omega)
        rwa [show min (nxt k) 253402300800 = nxt k by omega] at h)
      have HSK : Hid (mayB t l who house c (nxt k) = false → SpOk (mayB t l who house c) xs (min (nxt (k + 1)) 253402300800)) := Lib.hid (fun h => spOk_skip HSP.out (Int.le_of_lt hnl) (fun m h1 h2 => (hcon m h1 h2).trans h))
      have HAD : Hid (mayB t l who house c (nxt k) = true → SpOk (mayB t l who house c) (addS xs (nxt k) (min (nxt (k + 1)) 253402300800)) (min (nxt (k + 1)) 253402300800)) := Lib.hid (fun h => spOk_add HSP.out hn0 hnl (fun m h1 h2 => (hcon m h1 h2).trans h))
      have HMAK := Lib.hid (hMay_any vt t v l who house c (nxt k) wr (Rp.ext _ HT.out HBZ.out) (Rp.ext _ H0.out HBZ.out) HTG.out HRG.out hck)
      have hKC := HKC8.out.same (same_below HBR.out) HKC8.out.lt
      have hKV := HKV8.out.same (same_below HBR.out) HKV8.out.lt
      have c0 : wr.cell? ⟨w.heap.size + 1, 0, none⟩ = some (.string (bstr c.key)) := hKC.cell 0
      have c1 : wr.cell? ⟨w.heap.size + 1, 1, none⟩ = some (.int .i64 c.time) := hKC.cell 1
      have m0 : wr.cell? ⟨w.heap.size, 0, none⟩ = some (.string (bstr who)) := hKV.cell 0
      have m1 : wr.cell? ⟨w.heap.size, 1, none⟩ = some (.bool house) := hKV.cell 1
      have HE1 : Hid (w8.cell? ⟨g8, k + 1, none⟩ = some (.int .i64 (nxt (k + 1)))) := Lib.hid (HCL.out (k + 1) (by omega))
      have HMK : Hid (min (k + 1) ne = k + 1) := Lib.hid (by omega)
      clear hKC hKV hcon hn0 hnl hM HSP0
      generalize hnx : nxt (k + 1) = nx0 at *
      have HNXE := Lib.hid hnx
      clear hnx
      generalize nxt k = n at *
      go_wp2_with fail
      refine HMAK.out.mono ?_
      rintro e w9 ⟨rfl, hb⟩
      have HB9 := Lib.hid (HBR.out.trans (hb.mono HBR.out.size))
      have HO9 := Lib.hid (own_below HO.out hb)
      clear hb c0 c1 m0 m1 e0 HMAK
      cases hq : mayB t l who house c n with
      | false =>
        have HS := Lib.hid (HSK.out hq)
        clear hq HSK HAD
        go_wp2_with fail
        go_roundw
        case rel => first | exact ⟨k + 1, xs, by omega, by go_num, by omega, HO9, Lib.hid (fun j hj => by rw [hj, HMK.out, HNXE.out]; exact HS.out), HB9⟩ | (repeat (apply Exists.intro); (refine And.intro ?_ ?_; rotate_left; (repeat' (first | exact rfl | apply And.intro)); exact ⟨k + 1, xs, by omega, by go_num, by omega, HO9, Lib.hid (fun j hj => by rw [hj, HMK.out, HNXE.out]; exact HS.out), HB9⟩))
        case measure => simp [intOf]; omega
      | true =>
        have HA := Lib.hid (HAD.out hq)
        clear hq HSK HAD
        obtain ⟨nx, hnx⟩ : ∃ nx, nx = min nx0 253402300800 := ⟨_, rfl⟩
        rw [← hnx] at HA
        have HNX2 := Lib.hid hnx
        have e1 : w9.cell? ⟨g8, k + 1, none⟩ = some (.int .i64 nx0) := (HB9.out.cell (p := ⟨g8, k + 1, none⟩) hg8).trans HE1.out
        have hk1 : IntKind.i64.wrap ((k : Int) + 1) = (k : Int) + 1 := by rw [IntKind.wrap_i64]; omega
        have hk2 : ((k : Int) + 1).toNat = k + 1 := by omega
        have hk3 : (0 : Int) ≤ (k : Int) + 1 := by omega
        have hk4 : (k : Int) + 1 < (ne : Int) + 1 := by omega
        have hk5 : (k : Int) < (ne : Int) := by omega
        have hw1 : IntKind.i64.wrap ((xs.length : Int) - 1) = (xs.length : Int) - 1 := by rw [IntKind.wrap_i64]; omega
        have hnx' := hnx.symm
        clear hnx
        by_cases hL : xs.length = 0
        · have HA2 := HA
          rw [addS_new (fun e => by omega)] at HA2
          have hLI : ¬ (0 : Int) < (xs.length : Int) := by omega
          clear hL HA
          go_wp2_with (at_builtin; go_must (refine app_new (w := w9) rfl (.tmp 73) (.tmp 77) 31 rfl 36 (.agg #[.int .i64 0, .int .i64 0]) 2 16 Tryz.underlying31 st_info rfl (by decide) (m := 1) [.int .i64 n, .int .i64 nx] HO9.out HB9.out.size rfl rfl rfl (by decide) (by simp [Value.oneCell']) (by unfold maxLen; omega) (by omega) ?_); intro g10 c10 w10 HO10 HG10 HE10 HL10)
          have HB10 := Lib.hid (HB9.out.grown HG10.out HB9.out.size (fun j hj => (HO9.out.lt j hj).1))
          go_roundw
          case rel => first | exact ⟨k + 1, xs ++ [(n, nx)], by omega, by go_num, by rw [List.length_append, List.length_singleton]; omega, by rw [List.length_append, List.length_singleton, List.flatMap_append]; exact HO10, Lib.hid (fun j hj => by rw [hj, HMK.out, HNXE.out, ← HNX2.out]; exact HA2.out), HB10⟩ | (repeat (apply Exists.intro); (refine And.intro ?_ ?_; rotate_left; (repeat' (first | exact rfl | apply And.intro)); exact ⟨k + 1, xs ++ [(n, nx)], by omega, by go_num, by rw [List.length_append, List.length_singleton]; omega, by rw [List.length_append, List.length_singleton, List.flatMap_append]; exact HO10, Lib.hid (fun j hj => by rw [hj, HMK.out, HNXE.out, ← HNX2.out]; exact HA2.out), HB10⟩))
          case measure => simp [intOf]; omega
        obtain ⟨L, hLL⟩ : ∃ L, xs.length = L + 1 := ⟨xs.length - 1, by omega⟩
        have hLx : L < xs.length := by omega
        rcases HO9.out.2 with ⟨_, h0⟩ | ⟨go, cap, cur, hv, hgb, hgh, _, _, hcs, htk⟩
        · omega
        injection hv with hv _ hv2
        subst hv hv2
        have e2 : w9.cell? ⟨go, L * 2 + 1, none⟩ = some (.int .i64 xs[L].2) := by
          rw [HO9.out.cellAt (L * 2 + 1) (by omega), st_flat_at xs L 1 hLx (by omega)]; rfl
        have z2 : w9.frozen? ⟨go, L * 2 + 1, none⟩ = false := by simp [World.frozen?, hgh]
        have HADO : Hid (xs[L].2 = n → addS xs n nx = xs.set L (xs[L].1, nx)) := Lib.hid (fun h => by
          have h1 := addS_old (xs := xs) (n := n) (e := nx) (by omega) (by simpa [hLL] using h)
          rw [h1]
          simp [hLL])
        have HADN : Hid (xs[L].2 ≠ n → addS xs n nx = xs ++ [(n, nx)]) := Lib.hid (fun h => addS_new (fun e => h (by
          have h2 := e.2
          rw [List.getD_eq_getElem?_getD, List.getElem?_eq_getElem (by omega)] at h2
          simpa [hLL] using h2)))
        have HSET : Hid ((w9.setCell ⟨go, L * 2 + 1, none⟩ (.int .i64 nx)).ownsRow w8.heap.size 36 2 (.slice (some ⟨go, 0, none⟩) xs.length co) xs.length ((xs.set L (xs[L].1, nx)).flatMap stCells)) := Lib.hid (by
          rw [← st_set xs L hLx nx]
          exact own_setS HO9.out (by omega) _)
        have HBS := Lib.hid (HB9.out.setCell (p := ⟨go, L * 2 + 1, none⟩) hgb (.int .i64 nx))
        have hl0 : (0 : Int) ≤ (xs.length : Int) - 1 := by omega
        have hl1 : ((xs.length : Int) - 1).toNat = L := by omega
        have hl2 : (xs.length : Int) - 1 < (xs.length : Int) := by omega
        have hl3 : (1 : Int) ≤ (xs.length : Int) := by omega
        have hl4 : (0 : Int) < (xs.length : Int) := by omega
        generalize xs[L] = y at *
        clear hgh hcs htk hgb
        have HLL := Lib.hid hLL
        clear hLL hL
        by_cases hy : y.2 = n
        · have HA2 := HA
          rw [HADO.out hy] at HA2
          clear HADO HADN HA
          go_wp2_with fail
          go_roundw
          case rel => first | exact ⟨k + 1, xs.set L (y.1, nx), by omega, by go_num, by rw [List.length_set]; omega, by rw [List.length_set]; exact HSET, Lib.hid (fun j hj => by rw [hj, HMK.out, HNXE.out, ← HNX2.out]; exact HA2.out), HBS⟩ | (repeat (apply Exists.intro); (refine And.intro ?_ ?_; rotate_left; (repeat' (first | exact rfl | apply And.intro)); exact ⟨k + 1, xs.set L (y.1, nx), by omega, by go_num, by rw [List.length_set]; omega, by rw [List.length_set]; exact HSET, Lib.hid (fun j hj => by rw [hj, HMK.out, HNXE.out, ← HNX2.out]; exact HA2.out), HBS⟩))
          case measure => simp [intOf]; omega
        · have HA2 := HA
          rw [HADN.out hy] at HA2
          clear HADO HADN HA HSET HBS
          go_wp2_with (at_builtin; go_must (refine app_new (w := w9) rfl (.tmp 73) (.tmp 77) 31 rfl 36 (.agg #[.int .i64 0, .int .i64 0]) 2 16 Tryz.underlying31 st_info rfl (by decide) (m := 1) [.int .i64 n, .int .i64 nx] HO9.out HB9.out.size rfl rfl rfl (by decide) (by simp [Value.oneCell']) (by unfold maxLen; omega) (by omega) ?_); intro g10 c10 w10 HO10 HG10 HE10 HL10)
          have HB10 := Lib.hid (HB9.out.grown HG10.out HB9.out.size (fun j hj => (HO9.out.lt j hj).1))
          go_roundw
          case rel => first | exact ⟨k + 1, xs ++ [(n, nx)], by omega, by go_num, by rw [List.length_append, List.length_singleton]; omega, by rw [List.length_append, List.length_singleton, List.flatMap_append]; exact HO10, Lib.hid (fun j hj => by rw [hj, HMK.out, HNXE.out, ← HNX2.out]; exact HA2.out), HB10⟩ | (repeat (apply Exists.intro); (refine And.intro ?_ ?_; rotate_left; (repeat' (first | exact rfl | apply And.intro)); exact ⟨k + 1, xs ++ [(n, nx)], by omega, by go_num, by rw [List.length_append, List.length_singleton]; omega, by rw [List.length_append, List.length_singleton, List.flatMap_append]; exact HO10, Lib.hid (fun j hj => by rw [hj, HMK.out, HNXE.out, ← HNX2.out]; exact HA2.out), HB10⟩))
          case measure => simp [intOf]; omega
    · obtain rfl : k = ne + 1 := by omega
      have HSF : Hid (SpOk (mayB t l who house c) xs 253402300800) := Lib.hid (by
        have h := HSP0.out ne (by omega)
        rw [HNE.out] at h
        exact h)
      have HRD : Hid ((Rp.sl stRp).ok wr (· < wr.heap.size) [.slice Ao xs.length co] xs) := Lib.hid (st_read HO.out (fun x hx => ⟨HSF.out.low x hx, HSF.out.sep.1 x hx, HSF.out.top x hx⟩))
      go_wp2_with fail
      go_ret2
      exact ⟨_, xs, by rw [HF.out]; rfl, HRD.out, fun _ => HSF.out, fun h => absurd HF.out h, by omega, HBZ.out⟩
end Go.Proofs.YtfgglpjmkahphaaGreatDoor
