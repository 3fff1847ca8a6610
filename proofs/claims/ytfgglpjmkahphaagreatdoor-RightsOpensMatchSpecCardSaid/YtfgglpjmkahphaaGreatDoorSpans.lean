/-
  'Spans' of package rights: when somebody may see a capture.
-/
import Derived.Test.YtfgglpjmkahphaaGreatDoorOpens
namespace Go.Proofs.YtfgglpjmkahphaaGreatDoor
open Go.RowKit
set_option linter.unusedVariables false
set_option linter.unusedSimpArgs false

def stCells (x : Int × Int) : List Value := [.int .i64 x.1, .int .i64 x.2]
def stRp : Rp (Int × Int) := Rp.pair (Rp.int .i64) (Rp.int .i64)
theorem st_info : (Tryz.prog.info? 36).map (fun i => (i.zero, i.size, i.bytes)) = some (some (.agg #[.int .i64 0, .int .i64 0]), 2, 16) := by kernel_rfl
theorem st_flat (l : List (Int × Int)) (k : Nat) (h : k < l.length) : ((l.flatMap stCells).drop (k * 2)).take 2 = stCells l[k] := flat_at (f := stCells) (sz := 2) (fun _ => rfl) l k h
theorem st_flat_len (l : List (Int × Int)) : (l.flatMap stCells).length = l.length * 2 := flat_len (f := stCells) (sz := 2) (fun _ => rfl) l
theorem st_flat_at (l : List (Int × Int)) (k j : Nat) (h : k < l.length) (hj : j < 2) : (l.flatMap stCells)[k * 2 + j]? = (stCells l[k])[j]? := by
  rw [← st_flat l k h, List.getElem?_take_of_lt hj, List.getElem?_drop]
theorem st_set (L : List (Int × Int)) (i : Nat) (h : i < L.length) (e : Int) : (L.flatMap stCells).set (i * 2 + 1) (.int .i64 e) = (L.set i (L[i].1, e)).flatMap stCells := by
  have ht : ((L.take i).flatMap stCells).length = i * 2 := by rw [st_flat_len, List.length_take, Nat.min_eq_left (by omega)]
  conv => lhs; rw [← List.take_append_drop i L, List.drop_eq_getElem_cons h, List.flatMap_append, List.flatMap_cons]
  rw [List.set_append_right _ _ (by omega), ht, show i * 2 + 1 - i * 2 = 1 by omega, List.set_append_left _ _ (by simp [stCells]),
    show (stCells L[i]).set 1 (.int .i64 e) = stCells (L[i].1, e) from rfl, List.set_eq_take_append_cons_drop, if_pos h, List.flatMap_append, List.flatMap_cons]
theorem own_setS {w : World} {B g n c j : Nat} {e : TypeId} {sz : Nat} {xs : List Value} (h : w.ownsRow B e sz (.slice (some ⟨g, 0, none⟩) n c) n xs) (hj : j < n * sz) (u : Value) :
    (w.setCell ⟨g, j, none⟩ u).ownsRow B e sz (.slice (some ⟨g, 0, none⟩) n c) n (xs.set j u) := by
  refine ⟨by rw [List.length_set]; exact h.1, ?_⟩
  rcases h.2 with ⟨h1, _⟩ | ⟨g', cap, cur, h1, hb, hh, h2, h3, h4, h5⟩
  · cases h1
  · injection h1 with h1 _ h6
    injection h1 with h1
    injection h1 with h1
    subst h1 h6
    refine .inr ⟨g, c, cur.setIfInBounds j u, rfl, hb, ?_, h2, h3, by simp [h4], ?_⟩
    · simp [World.setCell, Array.getElem?_modify, hh]
    · rw [Array.toList_setIfInBounds, List.take_set, h5]
theorem st_read {w : World} {B n : Nat} {v : Value} {L : List (Int × Int)} (h : w.ownsRow B 36 2 v n (L.flatMap stCells)) (hl : ∀ x ∈ L, 0 ≤ x.1 ∧ x.1 < x.2 ∧ x.2 ≤ 253402300800) : (Rp.sl stRp).ok w (· < w.heap.size) [v] L :=
  Rp.of_ownN (R := stRp) (by decide) (fun _ => rfl) h (fun g hg => (h.lt g hg).2) (fun x hx => ⟨[_], [_], rfl, ⟨rfl, WalkArith.wf_i64 (by have := hl x hx; omega)⟩, ⟨rfl, WalkArith.wf_i64 (by have := hl x hx; omega)⟩⟩)
theorem addS_len (xs : List (Int × Int)) (n e : Int) : (addS xs n e).length ≤ xs.length + 1 := by
  unfold addS
  split
  · rw [List.length_set]; omega
  · simp
theorem addS_new {xs : List (Int × Int)} {n e : Int} (h : ¬ (0 < xs.length ∧ (xs.getD (xs.length - 1) (0, 0)).2 = n)) : addS xs n e = xs ++ [(n, e)] := if_neg h
theorem addS_old {xs : List (Int × Int)} {n e : Int} (h0 : 0 < xs.length) (h : (xs[xs.length - 1]'(by omega)).2 = n) : addS xs n e = xs.set (xs.length - 1) ((xs[xs.length - 1]'(by omega)).1, e) := by
  have hg : xs.getD (xs.length - 1) (0, 0) = xs[xs.length - 1]'(by omega) := by rw [List.getD_eq_getElem?_getD, List.getElem?_eq_getElem (by omega)]; rfl
  unfold addS
  rw [hg, if_pos ⟨h0, h⟩]
/-- The moments of E in their order, and the end behind them: p is the same from each up to the next one. -/
theorem part_same {p : Int → Bool} {es : List Int} {M : Int} (hs : Steps p M es 0) (hpw : es.Pairwise (· < ·)) {k : Nat} (hk : k < es.length) (h0 : 0 ≤ es[k]) (hM : ∀ n ∈ es, n ≤ M) {nx : Int} (hn : nx = if h : k + 1 < es.length then es[k + 1] else M + 1) : es[k] < nx ∧ nx ≤ M + 1 ∧ ∀ m, es[k] ≤ m → m < nx → p m = p es[k] := by
  have hgap : ∀ n ∈ es, es[k] < n → nx ≤ n := by
    intro n hn' hl
    obtain ⟨j, hj, rfl⟩ := List.mem_iff_getElem.1 hn'
    have hkj := lt_of_pw hpw hk hj hl
    rw [hn, dif_pos (by omega)]
    rcases Nat.lt_or_eq_of_le (show k + 1 ≤ j by omega) with e | e
    · exact Int.le_of_lt (List.pairwise_iff_getElem.1 hpw (k + 1) j (by omega) hj e)
    · subst e; exact Int.le_refl _
  have hb : es[k] < nx ∧ nx ≤ M + 1 := by
    rw [hn]
    split
    · rename_i h
      have h1 := List.pairwise_iff_getElem.1 hpw k (k + 1) hk h (by omega)
      have h2 := hM _ (List.getElem_mem h)
      omega
    · have h2 := hM _ (List.getElem_mem hk)
      omega
  exact ⟨hb.1, hb.2, fun m h1 h2 => (hs es[k] m h0 h1 (by omega) (fun n hn' h3 h4 => by have := hgap n hn' h3; omega)).symm⟩
def SpansPost (t : List Team) (l : List Rgt) (who : List UInt8) (house : Bool) (c : Cap) (w : World) (e : Ending) (w' : World) : Prop :=
  ∃ v xs, e = .returned (.tuple #[v, .int .i64 (askF t l who c)]) ∧ (Rp.sl stRp).ok w' (· < w'.heap.size) [v] xs ∧ (askF t l who c = 0 → SpOk (mayB t l who house c) xs 253402300800) ∧ (askF t l who c ≠ 0 → xs = []) ∧ xs.length ≤ 100000 ∧ Below w.heap.size w w'
set_option maxRecDepth 100000 in
set_option maxHeartbeats 4000000 in
theorem spans_any (vt : Value) (t : List Team) (v : Value) (l : List Rgt) (who : List UInt8) (house : Bool) (c : Cap) (w : World) (ht : (Rp.sl teamRp).ok w (· < w.heap.size) [vt] t) (h0 : (Rp.sl rgtRp).ok w (· < w.heap.size) [v] l) (hck : c.key.length ≤ 9223372036854775807) (hwl : who.length ≤ 9223372036854775807) :
    Calls Tryz.prog 7 #[vt, v, .agg #[.string (bstr who), .bool house], .agg #[.string (bstr c.key), .int .i64 c.time]] w (SpansPost t l who house c w) := by
  have HT := Lib.hid ht
  have H0 := Lib.hid h0
  clear ht h0
  have hl0 := (Below.refl w.heap.size _).alloc (Nat.le_refl _) (.cells #[.string (bstr who), .bool house] 25)
  have hl1 := (Below.refl (w.alloc (.cells #[.string (bstr who), .bool house] 25)).heap.size _).alloc (Nat.le_refl _) (.cells #[.string (bstr c.key), .int .i64 c.time] 27)
  have HBA : Hid (Below w.heap.size w ((w.alloc (.cells #[.string (bstr who), .bool house] 25)).alloc (.cells #[.string (bstr c.key), .int .i64 c.time] 27))) := Lib.hid ((hl0).trans (hl1.mono (by simp <;> omega)))
  have hk0 : Blk ((w.alloc (.cells #[.string (bstr who), .bool house] 25)).alloc (.cells #[.string (bstr c.key), .int .i64 c.time] 27)) (w.heap.size) 25 [.string (bstr who), .bool house] := by
    have h := (Blk.new w 25 [.string (bstr who), .bool house]).same (same_below hl1) (by simp <;> omega)
    simpa only [World.size_alloc] using h
  have HKVA := Lib.hid hk0
  have hk1 : Blk ((w.alloc (.cells #[.string (bstr who), .bool house] 25)).alloc (.cells #[.string (bstr c.key), .int .i64 c.time] 27)) (w.heap.size + 1) 27 [.string (bstr c.key), .int .i64 c.time] := by
    have h := Blk.new (w.alloc (.cells #[.string (bstr who), .bool house] 25)) 27 [.string (bstr c.key), .int .i64 c.time]
    simpa only [World.size_alloc] using h
  have HKCA := Lib.hid hk1
  clear hl0 hk0 hl1 hk1
  go_enter Tryz.func7, Tryz.ntmps7
  have v0 : ((w.alloc (.cells #[.string (bstr who), .bool house] 25)).alloc (.cells #[.string (bstr c.key), .int .i64 c.time] 27)).cell? ⟨w.heap.size, 0, none⟩ = some (.string (bstr who)) := HKVA.out.cell 0
  have v1 : ((w.alloc (.cells #[.string (bstr who), .bool house] 25)).alloc (.cells #[.string (bstr c.key), .int .i64 c.time] 27)).cell? ⟨w.heap.size, 1, none⟩ = some (.bool house) := HKVA.out.cell 1
  have c0 : ((w.alloc (.cells #[.string (bstr who), .bool house] 25)).alloc (.cells #[.string (bstr c.key), .int .i64 c.time] 27)).cell? ⟨w.heap.size + 1, 0, none⟩ = some (.string (bstr c.key)) := HKCA.out.cell 0
  have c1 : ((w.alloc (.cells #[.string (bstr who), .bool house] 25)).alloc (.cells #[.string (bstr c.key), .int .i64 c.time] 27)).cell? ⟨w.heap.size + 1, 1, none⟩ = some (.int .i64 c.time) := HKCA.out.cell 1
  go_wp2_with fail
  clear v0 v1 c0 c1
  generalize ((w.alloc (.cells #[.string (bstr who), .bool house] 25)).alloc (.cells #[.string (bstr c.key), .int .i64 c.time] 27)) = wA at *
  refine (checkAsked_any vt t v l who house c wA (Rp.ext _ HT.out HBA.out) (Rp.ext _ H0.out HBA.out) hck hwl).mono ?_
  rintro e w3 ⟨rfl, hb⟩
  have HB3 := Lib.hid (HBA.out.trans (hb.mono HBA.out.size))
  have HKV3 := Lib.hid (HKVA.out.same (same_below hb) HKVA.out.lt)
  have HKC3 := Lib.hid (HKCA.out.same (same_below hb) HKCA.out.lt)
  clear hb HBA HKVA HKCA
  by_cases hf : askF t l who c = 0
  case neg =>
    have HN := Lib.hid hf
    have hn : (askF t l who c != 0) = true := by simpa using hf
    clear hf
    generalize hfe : askF t l who c = f at *
    have HFE := Lib.hid hfe
    clear hfe
    go_wp2_with fail
    go_ret2
    exact ⟨_, [], by rw [HFE.out]; rfl, Rp.sl_nil _ _ _, fun h => absurd (HFE.out.symm.trans h) HN.out, fun _ => rfl, by simp, HB3.out⟩
  obtain ⟨htf, hTG, hRG⟩ := ask_good hf
  have HRG := Lib.hid hRG
  have HTG := Lib.hid hTG
  have HTF := Lib.hid htf
  have hm := hRG.len
  clear hTG hRG htf
  have HF : Hid (askF t l who c = 0) := Lib.hid hf
  rw [hf]
  clear hf
  have v0 : w3.cell? ⟨w.heap.size, 0, none⟩ = some (.string (bstr who)) := HKV3.out.cell 0
  have v1 : w3.cell? ⟨w.heap.size, 1, none⟩ = some (.bool house) := HKV3.out.cell 1
  go_wp2_with fail
  refine (eyeOf_any vt t who house w3 (Rp.ext _ HT.out HB3.out) HTG.out).mono ?_
  rintro e w5 ⟨A5, c5, rfl, hnn, hb⟩
  have hal := (Below.refl w5.heap.size w5).alloc (Nat.le_refl _) (.cells #[.bool house, .slice A5 (eyeT t who t.length).length c5] 52)
  have HB5 := Lib.hid ((HB3.out.trans (hb.mono HB3.out.size)).trans (hal.mono (Nat.le_trans HB3.out.size hb.size)))
  have HKV5 := Lib.hid ((HKV3.out.same (same_below hb) HKV3.out.lt).same (same_below hal) (Nat.lt_of_lt_of_le HKV3.out.lt hb.size))
  have HKC5 := Lib.hid ((HKC3.out.same (same_below hb) HKC3.out.lt).same (same_below hal) (Nat.lt_of_lt_of_le HKC3.out.lt hb.size))
  have HKE5 := Lib.hid (Blk.new w5 52 [.bool house, .slice A5 (eyeT t who t.length).length c5])
  have HNN := Lib.hid (Rp.ext _ hnn hal)
  clear hb hal hnn HB3 HKV3 HKC3
  have c0 : (w5.alloc (.cells #[.bool house, .slice A5 (eyeT t who t.length).length c5] 52)).cell? ⟨w.heap.size + 1, 0, none⟩ = some (.string (bstr c.key)) := HKC5.out.cell 0
  have c1 : (w5.alloc (.cells #[.bool house, .slice A5 (eyeT t who t.length).length c5] 52)).cell? ⟨w.heap.size + 1, 1, none⟩ = some (.int .i64 c.time) := HKC5.out.cell 1
  clear v0 v1
  go_wp2_with fail
  clear c0 c1
  obtain ⟨eb, heb⟩ : ∃ eb, eb = w5.heap.size := ⟨_, rfl⟩
  rw [← heb] at HKE5 ⊢
  clear heb
  generalize w5.alloc (.cells #[.bool house, .slice A5 (eyeT t who t.length).length c5] 52) = w6 at *
  refine (edges_any v l c 0 w6 (Rp.ext _ H0.out HB5.out) (by omega) hck).mono ?_
  rintro e w7 ⟨ve, es, rfl, ho, hpw, hmem, hel, hb⟩
  have HMA : Hid (∀ W n, Below w6.heap.size w6 W → Calls Tryz.prog 20 #[.agg #[.bool house, .slice A5 (eyeT t who t.length).length c5], v, .agg #[.string (bstr c.key), .int .i64 c.time], .int .i64 n] W fun e w' => e = .returned (.bool (mayB t l who house c n)) ∧ Below W.heap.size W w') := Lib.hid (fun W n hW => by
    have h := may_any _ _ house v l c n W (Rp.ext _ HNN.out hW) (Rp.ext _ (Rp.ext _ H0.out HB5.out) hW) (by omega) hck
    rw [mayT_eq HTF.out HRG.out] at h
    exact h)
  have HB7 := Lib.hid (HB5.out.trans (hb.mono HB5.out.size))
  have HG7 := Lib.hid hb
  have HO7 := Lib.hid ho
  have HPW := Lib.hid hpw
  have HKC7 := Lib.hid (HKC5.out.same (same_below hb) HKC5.out.lt)
  have HKE7 := Lib.hid (HKE5.out.same (same_below hb) HKE5.out.lt)
  have HST : Hid (Steps (mayB t l who house c) 253402300799 es 0) := Lib.hid (steps_of (fun n h1 h2 h3 => (hmem n).2 (.inr ⟨h1, h2, h3⟩)))
  have HRG0 : Hid (∀ n ∈ es, 0 ≤ n ∧ n ≤ 253402300799) := Lib.hid (fun n hn => by rcases (hmem n).1 hn with e | e <;> omega)
  have HES0 : Hid (∃ h : 0 < es.length, es[0] = 0) := Lib.hid (by
    obtain ⟨j, hj, hj0⟩ := List.mem_iff_getElem.1 ((hmem 0).2 (.inl rfl))
    refine ⟨by omega, ?_⟩
    by_cases e : j = 0
    · subst e; exact hj0
    · have h1 := List.pairwise_iff_getElem.1 hpw 0 j (by omega) hj (by omega)
      have h2 := HRG0.out _ (List.getElem_mem (show 0 < es.length by omega))
      omega)
  obtain ⟨hpos, hes0⟩ := HES0.out
  have HESZ := Lib.hid hes0
  have HW6 := Lib.hid HB5.out.size
  clear hb ho hpw hmem HB5 HKC5 HKE5 HKV5 HES0 hes0
  have hb7 : w6.heap.size ≤ w7.heap.size := HG7.out.size
  go_wp2_with (at_builtin; go_must (refine app_new (w := w7) rfl (.tmp 30) (.tmp 31) 54 rfl 3 (.int .i64 0) 1 8 Tryz.underlying54 int_info rfl (by decide) (m := 1) [.int .i64 253402300800] HO7.out hb7 rfl rfl rfl (by decide) (by simp [Value.oneCell']) (by unfold maxLen; omega) (by omega) ?_); intro g8 c8 w8 HO8 HG8 HE8 HL8; have hc8 : (es.length : Int) ≤ (c8 : Int) := by (obtain ⟨A', c', e', h1', _⟩ := own_form HO8.out; injection e' with _ _ e3; subst e3; omega))
  have HB8 := Lib.hid (HB7.out.grown HG8.out HB7.out.size (fun j hj => by have h1 := (HO7.out.lt j hj).1; have h2 := HW6.out; omega))
  have HG68 := Lib.hid (HG7.out.grown HG8.out HG7.out.size (fun j hj => (HO7.out.lt j hj).1))
  have HKC8 := Lib.hid (HKC7.out.same (grown_same HG8.out) ⟨HKC7.out.lt, row_not_cap HKC7.out HO7.out⟩)
  have HKE8 := Lib.hid (HKE7.out.same (grown_same HG8.out) ⟨HKE7.out.lt, row_not_cap HKE7.out HO7.out⟩)
  have hg8 : g8 < w8.heap.size := (HO8.out.lt g8 rfl).2
  obtain ⟨nxt, hnxt⟩ : ∃ nxt : Nat → Int, ∀ k, nxt k = if h : k < es.length then es[k] else 253402300799 + 1 := ⟨fun k => if h : k < es.length then es[k] else 253402300799 + 1, fun _ => rfl⟩
  have HNX := Lib.hid hnxt
  have HCL : Hid (∀ k, k ≤ es.length → w8.cell? ⟨g8, k, none⟩ = some (.int .i64 (nxt k))) := Lib.hid (fun k hk => by
    rw [HO8.out.cellAt k (by omega), HNX.out]
    by_cases hkl : k < es.length
    · rw [dif_pos hkl, List.getElem?_append_left (by simpa using hkl)]; simp [hkl]
    · obtain rfl : k = es.length := by omega
      rw [dif_neg hkl, List.getElem?_append_right (by simp)]; simp)
  have HPART : Hid (∀ k, k < es.length → 0 ≤ nxt k ∧ nxt k < nxt (k + 1) ∧ nxt (k + 1) ≤ 253402300800 ∧ ∀ m, nxt k ≤ m → m < nxt (k + 1) → mayB t l who house c m = mayB t l who house c (nxt k)) := Lib.hid (fun k hk => by
    have h0 := HRG0.out _ (List.getElem_mem hk)
    have h := part_same HST.out HPW.out hk h0.1 (fun n hn => (HRG0.out n hn).2) (nx := nxt (k + 1)) (by rw [HNX.out])
    have e : nxt k = es[k] := by rw [HNX.out, dif_pos hk]
    rw [e]
    exact ⟨h0.1, h.1, h.2.1, h.2.2⟩)
  have HN0 : Hid (nxt 0 = 0) := Lib.hid (by rw [HNX.out, dif_pos hpos]; exact HESZ.out)
  have HNE : Hid (nxt es.length = 253402300800) := Lib.hid (by rw [HNX.out, dif_neg (by omega)]; rfl)
  clear hnxt HNX HESZ HRG0 HST HPW HO8 HG8 HE8 HL8 HO7 HG7 HB7 HKC7 HKE7 hpos
  generalize es.length = ne at *
  go_loopw [13, 39] (fun vo vi wr => ∃ (k : Nat) (xs : List (Int × Int)), k ≤ ne ∧ vi = .int .i64 k ∧ xs.length ≤ k ∧ Hid (wr.ownsRow w8.heap.size 36 2 vo xs.length (xs.flatMap stCells)) ∧ Hid (SpOk (mayB t l who house c) xs (nxt k)) ∧ Hid (Below w8.heap.size w8 wr)) (fun _ vi _ => ne - (intOf vi).toNat)
  case atStart => exact ⟨0, [], by omega, rfl, by simp, World.ownsRow_nil _ _ _ _, Lib.hid (by rw [HN0.out]; exact spOk_nil _), Below.refl _ _⟩
  case round =>
    obtain ⟨k, xs, hk, rfl, hxl, HO, HSP, HBR⟩ := hrel
    obtain ⟨Ao, co, hvo, hco1, hco2, _⟩ := own_form HO.out
    subst hvo
    have HBZ := Lib.hid (HB8.out.trans (HBR.out.mono HB8.out.size))
    by_cases hlt : k < ne
    · obtain ⟨hn0, hnl, hnM, hcon⟩ := HPART.out k hlt
      have HSK : Hid (mayB t l who house c (nxt k) = false → SpOk (mayB t l who house c) xs (nxt (k + 1))) := Lib.hid (fun h => spOk_skip HSP.out (Int.le_of_lt hnl) (fun m h1 h2 => (hcon m h1 h2).trans h))
      have HAD : Hid (mayB t l who house c (nxt k) = true → SpOk (mayB t l who house c) (addS xs (nxt k) (nxt (k + 1))) (nxt (k + 1))) := Lib.hid (fun h => spOk_add HSP.out hn0 hnl (fun m h1 h2 => (hcon m h1 h2).trans h))
      have hMAK := HMA.out wr (nxt k) (HG68.out.trans (HBR.out.mono HG68.out.size))
      have HMAK := Lib.hid hMAK
      have hKC := HKC8.out.same (same_below HBR.out) HKC8.out.lt
      have hKE := HKE8.out.same (same_below HBR.out) HKE8.out.lt
      have HKCR := Lib.hid hKC
      have c0 : wr.cell? ⟨w.heap.size + 1, 0, none⟩ = some (.string (bstr c.key)) := hKC.cell 0
      have c1 : wr.cell? ⟨w.heap.size + 1, 1, none⟩ = some (.int .i64 c.time) := hKC.cell 1
      have y0 : wr.cell? ⟨eb, 0, none⟩ = some (.bool house) := hKE.cell 0
      have y1 : wr.cell? ⟨eb, 1, none⟩ = some (.slice A5 (eyeT t who t.length).length c5) := hKE.cell 1
      have e0 : wr.cell? ⟨g8, k, none⟩ = some (.int .i64 (nxt k)) := (HBR.out.cell (p := ⟨g8, k, none⟩) hg8).trans (HCL.out k hk)
      have HE1 : Hid (w8.cell? ⟨g8, k + 1, none⟩ = some (.int .i64 (nxt (k + 1)))) := Lib.hid (HCL.out (k + 1) (by omega))
      clear hKC hKE hMAK hcon hn0 hnl hnM
      generalize hnx : nxt (k + 1) = nx at *
      have HNXE := Lib.hid hnx
      clear hnx
      generalize nxt k = n at *
      go_wp2_with fail
      refine HMAK.out.mono ?_
      rintro e w9 ⟨rfl, hb⟩
      have HB9 := Lib.hid (HBR.out.trans (hb.mono HBR.out.size))
      have HO9 := Lib.hid (own_below HO.out hb)
      clear hb c0 c1 y0 y1 e0 HMAK HKCR
      cases hq : mayB t l who house c n with
      | false =>
        have HS := Lib.hid (HSK.out hq)
        clear hq HSK HAD
        go_wp2_with fail
        go_roundw
        case rel => first | exact ⟨k + 1, xs, by omega, by go_num, by omega, HO9, by rw [HNXE.out]; exact HS, HB9⟩ | (repeat (apply Exists.intro); (refine And.intro ?_ ?_; rotate_left; (repeat' (first | exact rfl | apply And.intro)); exact ⟨k + 1, xs, by omega, by go_num, by omega, HO9, by rw [HNXE.out]; exact HS, HB9⟩))
        case measure => simp [intOf]; omega
      | true =>
        have HA := Lib.hid (HAD.out hq)
        clear hq HSK HAD
        have e1 : w9.cell? ⟨g8, k + 1, none⟩ = some (.int .i64 nx) := (HB9.out.cell (p := ⟨g8, k + 1, none⟩) hg8).trans HE1.out
        have hk1 : IntKind.i64.wrap ((k : Int) + 1) = (k : Int) + 1 := by rw [IntKind.wrap_i64]; omega
        have hk2 : ((k : Int) + 1).toNat = k + 1 := by omega
        have hk3 : (0 : Int) ≤ (k : Int) + 1 := by omega
        have hk4 : (k : Int) + 1 < (ne : Int) + 1 := by omega
        have hk5 : (k : Int) < (ne : Int) := by omega
        have hw1 : IntKind.i64.wrap ((xs.length : Int) - 1) = (xs.length : Int) - 1 := by rw [IntKind.wrap_i64]; omega
        by_cases hL : xs.length = 0
        · have HA2 := HA
          rw [addS_new (fun e => by omega)] at HA2
          have hLI : ¬ (0 : Int) ≤ (xs.length : Int) - 1 := by omega
          clear hL HA
          go_wp2_with (at_builtin; go_must (refine app_new (w := w9) rfl (.tmp 73) (.tmp 81) 31 rfl 36 (.agg #[.int .i64 0, .int .i64 0]) 2 16 Tryz.underlying31 st_info rfl (by decide) (m := 1) [.int .i64 n, .int .i64 nx] HO9.out HB9.out.size rfl rfl rfl (by decide) (by simp [Value.oneCell']) (by unfold maxLen; omega) (by omega) ?_); intro g10 c10 w10 HO10 HG10 HE10 HL10)
          have HB10 := Lib.hid (HB9.out.grown HG10.out HB9.out.size (fun j hj => (HO9.out.lt j hj).1))
          go_roundw
          case rel => first | exact ⟨k + 1, xs ++ [(n, nx)], by omega, by go_num, by rw [List.length_append, List.length_singleton]; omega, by rw [List.length_append, List.length_singleton, List.flatMap_append]; exact HO10, by rw [HNXE.out]; exact HA2, HB10⟩ | (repeat (apply Exists.intro); (refine And.intro ?_ ?_; rotate_left; (repeat' (first | exact rfl | apply And.intro)); exact ⟨k + 1, xs ++ [(n, nx)], by omega, by go_num, by rw [List.length_append, List.length_singleton]; omega, by rw [List.length_append, List.length_singleton, List.flatMap_append]; exact HO10, by rw [HNXE.out]; exact HA2, HB10⟩))
          case measure => simp [intOf]; omega
        obtain ⟨L, hLL⟩ : ∃ L, xs.length = L + 1 := ⟨xs.length - 1, by omega⟩
        have hLx : L < xs.length := by omega
        have e3 := HO9.out
        rcases HO9.out.2 with ⟨_, h0⟩ | ⟨go, cap, cur, hv, hgb, hgh, _, _, hcs, htk⟩
        · omega
        injection hv with hv _ hv2
        subst hv hv2
        have e2 : w9.cell? ⟨go, L * 2 + 1, none⟩ = some (.int .i64 xs[L].2) := by
          rw [HO9.out.cellAt (L * 2 + 1) (by omega), st_flat_at xs L 1 hLx (by omega)]; rfl
        have z2 : w9.frozen? ⟨go, L * 2 + 1, none⟩ = false := by simp [World.frozen?, hgh]
        have HADO : Hid (xs[L].2 = n → addS xs n nx = xs.set L (xs[L].1, nx)) := Lib.hid (fun h => by
          have h1 := addS_old (xs := xs) (n := n) (e := nx) (by omega) (by simpa [hLL] using h)
          rw [h1]
          simp [hLL])
        have HADN : Hid (xs[L].2 ≠ n → addS xs n nx = xs ++ [(n, nx)]) := Lib.hid (fun h => addS_new (fun e => h (by
          have h2 := e.2
          rw [List.getD_eq_getElem?_getD, List.getElem?_eq_getElem (by omega)] at h2
          simpa [hLL] using h2)))
        have HSET : Hid ((w9.setCell ⟨go, L * 2 + 1, none⟩ (.int .i64 nx)).ownsRow w8.heap.size 36 2 (.slice (some ⟨go, 0, none⟩) xs.length co) xs.length ((xs.set L (xs[L].1, nx)).flatMap stCells)) := Lib.hid (by
          rw [← st_set xs L hLx nx]
          exact own_setS HO9.out (by omega) _)
        have HBS := Lib.hid (HB9.out.setCell (p := ⟨go, L * 2 + 1, none⟩) hgb (.int .i64 nx))
        have hl0 : (0 : Int) ≤ (xs.length : Int) - 1 := by omega
        have hl1 : ((xs.length : Int) - 1).toNat = L := by omega
        have hl2 : (xs.length : Int) - 1 < (xs.length : Int) := by omega
        have hl3 : (1 : Int) ≤ (xs.length : Int) := by omega
        generalize xs[L] = y at *
        clear hgh hcs htk hgb e3
        have HLL := Lib.hid hLL
        clear hLL hL
        by_cases hy : y.2 = n
        · have HA2 := HA
          rw [HADO.out hy] at HA2
          clear HADO HADN HA
          go_wp2_with fail
          go_roundw
          case rel => first | exact ⟨k + 1, xs.set L (y.1, nx), by omega, by go_num, by rw [List.length_set]; omega, by rw [List.length_set]; exact HSET, by rw [HNXE.out]; exact HA2, HBS⟩ | (repeat (apply Exists.intro); (refine And.intro ?_ ?_; rotate_left; (repeat' (first | exact rfl | apply And.intro)); exact ⟨k + 1, xs.set L (y.1, nx), by omega, by go_num, by rw [List.length_set]; omega, by rw [List.length_set]; exact HSET, by rw [HNXE.out]; exact HA2, HBS⟩))
          case measure => simp [intOf]; omega
        · have HA2 := HA
          rw [HADN.out hy] at HA2
          clear HADO HADN HA HSET HBS
          go_wp2_with (at_builtin; go_must (refine app_new (w := w9) rfl (.tmp 73) (.tmp 81) 31 rfl 36 (.agg #[.int .i64 0, .int .i64 0]) 2 16 Tryz.underlying31 st_info rfl (by decide) (m := 1) [.int .i64 n, .int .i64 nx] HO9.out HB9.out.size rfl rfl rfl (by decide) (by simp [Value.oneCell']) (by unfold maxLen; omega) (by omega) ?_); intro g10 c10 w10 HO10 HG10 HE10 HL10)
          have HB10 := Lib.hid (HB9.out.grown HG10.out HB9.out.size (fun j hj => (HO9.out.lt j hj).1))
          go_roundw
          case rel => first | exact ⟨k + 1, xs ++ [(n, nx)], by omega, by go_num, by rw [List.length_append, List.length_singleton]; omega, by rw [List.length_append, List.length_singleton, List.flatMap_append]; exact HO10, by rw [HNXE.out]; exact HA2, HB10⟩ | (repeat (apply Exists.intro); (refine And.intro ?_ ?_; rotate_left; (repeat' (first | exact rfl | apply And.intro)); exact ⟨k + 1, xs ++ [(n, nx)], by omega, by go_num, by rw [List.length_append, List.length_singleton]; omega, by rw [List.length_append, List.length_singleton, List.flatMap_append]; exact HO10, by rw [HNXE.out]; exact HA2, HB10⟩))
          case measure => simp [intOf]; omega
    · obtain rfl : k = ne := by omega
      have HSF : Hid (SpOk (mayB t l who house c) xs 253402300800) := Lib.hid (by rw [← HNE.out]; exact HSP.out)
      have HRD : Hid ((Rp.sl stRp).ok wr (· < wr.heap.size) [.slice Ao xs.length co] xs) := Lib.hid (st_read HO.out (fun x hx => ⟨HSF.out.low x hx, HSF.out.sep.1 x hx, HSF.out.top x hx⟩))
      go_wp2_with fail
      go_ret2
      exact ⟨_, xs, by rw [HF.out]; rfl, HRD.out, fun _ => HSF.out, fun h => absurd HF.out h, by omega, HBZ.out⟩
end Go.Proofs.YtfgglpjmkahphaaGreatDoor
