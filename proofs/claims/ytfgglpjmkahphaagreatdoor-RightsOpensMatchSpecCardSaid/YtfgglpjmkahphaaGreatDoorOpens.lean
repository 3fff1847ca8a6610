/-
  'Opens' of package rights: the first moment at which somebody may see a capture.
-/
import Derived.Test.YtfgglpjmkahphaaGreatDoorEdges
import Derived.Test.YtfgglpjmkahphaaGreatDoorAsk
namespace Go.Proofs.YtfgglpjmkahphaaGreatDoor
open Go.RowKit
set_option linter.unusedVariables false
set_option linter.unusedSimpArgs false

noncomputable def opF (t : List Team) (l : List Rgt) (who : List UInt8) (c : Cap) (at_ : Int) : Int := if askF t l who c ≠ 0 then askF t l who c else if withinB at_ 0 253402300799 = false then 1 else 0
def OpensPost (t : List Team) (l : List Rgt) (who : List UInt8) (house : Bool) (c : Cap) (at_ : Int) (w : World) (e : Ending) (w' : World) : Prop :=
  ∃ r, e = .returned (.tuple #[.int .i64 r, .int .i64 (opF t l who c at_)]) ∧ (opF t l who c at_ = 0 → IsOpen (mayB t l who house c) at_ 253402300799 r) ∧ (opF t l who c at_ ≠ 0 → r = 0) ∧ Below w.heap.size w w'
theorem lt_of_pw {es : List Int} (h : es.Pairwise (· < ·)) {i j : Nat} (hi : i < es.length) (hj : j < es.length) (hl : es[i] < es[j]) : i < j := by
  rcases Nat.lt_trichotomy i j with e | e | e
  · exact e
  · subst e; omega
  · have := List.pairwise_iff_getElem.1 h j i hj hi e; omega
/-- The rest of a list of moments: none of them is one at which p holds. -/
theorem open_none {p : Int → Bool} {at_ : Int} {es : List Int} (hs : Steps p 253402300799 es at_) (hat : at_ ∈ es) (h : ∀ j, (hj : j < es.length) → p es[j] = false) : IsOpen p at_ 253402300799 (-1) :=
  open_of hs hat (.inl ⟨rfl, fun n hn _ _ => by obtain ⟨j, hj, rfl⟩ := List.mem_iff_getElem.1 hn; exact h j hj⟩)
theorem open_some {p : Int → Bool} {at_ : Int} {es : List Int} (hs : Steps p 253402300799 es at_) (hat : at_ ∈ es) (hpw : es.Pairwise (· < ·)) {k : Nat} (hk : k < es.length) (hr : at_ ≤ es[k] ∧ es[k] ≤ 253402300799) (hp : p es[k] = true) (h : ∀ j, (hj : j < es.length) → j < k → p es[j] = false) : IsOpen p at_ 253402300799 es[k] :=
  open_of hs hat (.inr ⟨hr.1, hr.2, hp, fun n hn _ hl => by
    obtain ⟨j, hj, rfl⟩ := List.mem_iff_getElem.1 hn
    exact h j hj (lt_of_pw hpw hj hk hl)⟩)
set_option maxRecDepth 100000 in
set_option maxHeartbeats 4000000 in
theorem opens_any (vt : Value) (t : List Team) (v : Value) (l : List Rgt) (who : List UInt8) (house : Bool) (c : Cap) (at_ : Int) (w : World) (ht : (Rp.sl teamRp).ok w (· < w.heap.size) [vt] t) (h0 : (Rp.sl rgtRp).ok w (· < w.heap.size) [v] l) (hck : c.key.length ≤ 9223372036854775807) (hwl : who.length ≤ 9223372036854775807) :
    Calls Tryz.prog 5 #[vt, v, .agg #[.string (bstr who), .bool house], .agg #[.string (bstr c.key), .int .i64 c.time], .int .i64 at_] w (OpensPost t l who house c at_ w) := by
  have HT := Lib.hid ht
  have H0 := Lib.hid h0
  clear ht h0
  have hl0 := (Below.refl w.heap.size _).alloc (Nat.le_refl _) (.cells #[.string (bstr who), .bool house] 25)
  have hl1 := (Below.refl (w.alloc (.cells #[.string (bstr who), .bool house] 25)).heap.size _).alloc (Nat.le_refl _) (.cells #[.string (bstr c.key), .int .i64 c.time] 27)
  have HBA : Hid (Below w.heap.size w ((w.alloc (.cells #[.string (bstr who), .bool house] 25)).alloc (.cells #[.string (bstr c.key), .int .i64 c.time] 27))) := Lib.hid ((hl0).trans (hl1.mono (by simp <;> omega)))
  have hk0 : Blk ((w.alloc (.cells #[.string (bstr who), .bool house] 25)).alloc (.cells #[.string (bstr c.key), .int .i64 c.time] 27)) (w.heap.size) 25 [.string (bstr who), .bool house] := by
    have h := (Blk.new w 25 [.string (bstr who), .bool house]).same (same_below hl1) (by simp <;> omega)
    simpa only [World.size_alloc] using h
  have HKVA := Lib.hid hk0
  have hk1 : Blk ((w.alloc (.cells #[.string (bstr who), .bool house] 25)).alloc (.cells #[.string (bstr c.key), .int .i64 c.time] 27)) (w.heap.size + 1) 27 [.string (bstr c.key), .int .i64 c.time] := by
    have h := Blk.new (w.alloc (.cells #[.string (bstr who), .bool house] 25)) 27 [.string (bstr c.key), .int .i64 c.time]
    simpa only [World.size_alloc] using h
  have HKCA := Lib.hid hk1
  clear hl0 hk0 hl1 hk1
  go_enter Tryz.func5, Tryz.ntmps5
  have v0 : ((w.alloc (.cells #[.string (bstr who), .bool house] 25)).alloc (.cells #[.string (bstr c.key), .int .i64 c.time] 27)).cell? ⟨w.heap.size, 0, none⟩ = some (.string (bstr who)) := HKVA.out.cell 0
  have v1 : ((w.alloc (.cells #[.string (bstr who), .bool house] 25)).alloc (.cells #[.string (bstr c.key), .int .i64 c.time] 27)).cell? ⟨w.heap.size, 1, none⟩ = some (.bool house) := HKVA.out.cell 1
  have c0 : ((w.alloc (.cells #[.string (bstr who), .bool house] 25)).alloc (.cells #[.string (bstr c.key), .int .i64 c.time] 27)).cell? ⟨w.heap.size + 1, 0, none⟩ = some (.string (bstr c.key)) := HKCA.out.cell 0
  have c1 : ((w.alloc (.cells #[.string (bstr who), .bool house] 25)).alloc (.cells #[.string (bstr c.key), .int .i64 c.time] 27)).cell? ⟨w.heap.size + 1, 1, none⟩ = some (.int .i64 c.time) := HKCA.out.cell 1
  go_wp2_with fail
  clear v0 v1 c0 c1
  generalize ((w.alloc (.cells #[.string (bstr who), .bool house] 25)).alloc (.cells #[.string (bstr c.key), .int .i64 c.time] 27)) = wA at *
  refine (checkAsked_any vt t v l who house c wA (Rp.ext _ HT.out HBA.out) (Rp.ext _ H0.out HBA.out) hck hwl).mono ?_
  rintro e w3 ⟨rfl, hb⟩
  have HB3 := Lib.hid (HBA.out.trans (hb.mono HBA.out.size))
  have HKV3 := Lib.hid (HKVA.out.same (same_below hb) HKVA.out.lt)
  have HKC3 := Lib.hid (HKCA.out.same (same_below hb) HKCA.out.lt)
  clear hb HBA HKVA HKCA
  by_cases hf : askF t l who c = 0
  case neg =>
    have HF : Hid (opF t l who c at_ = askF t l who c) := Lib.hid (if_pos hf)
    have HN := Lib.hid hf
    have hn : (askF t l who c != 0) = true := by simpa using hf
    clear hf
    generalize askF t l who c = f at *
    go_wp2_with fail
    go_ret2
    exact ⟨0, by rw [HF.out]; rfl, fun h => absurd (HF.out.symm.trans h) HN.out, fun _ => rfl, HB3.out⟩
  obtain ⟨htf, hTG, hRG⟩ := ask_good hf
  have HRG := Lib.hid hRG
  have HTG := Lib.hid hTG
  have HTF := Lib.hid htf
  have hm := hRG.len
  clear hTG hRG htf
  have HR : Hid (opF t l who c at_ = if withinB at_ 0 253402300799 = false then 1 else 0) := Lib.hid (if_neg (by rw [hf]; decide))
  rw [hf]
  clear hf
  go_wp2_with fail
  refine (moment_any at_ _).mono ?_
  rintro e w3 ⟨rfl, rfl⟩
  cases hq : withinB at_ 0 253402300799 with
  | false =>
    have HF : Hid (opF t l who c at_ = 1) := Lib.hid (HR.out.trans (if_pos hq))
    clear hq HR
    go_wp2_with fail
    go_ret2
    exact ⟨0, by rw [HF.out]; rfl, fun h => absurd (HF.out.symm.trans h) (by decide), fun _ => rfl, HB3.out⟩
  | true =>
    have HF : Hid (opF t l who c at_ = 0) := Lib.hid (HR.out.trans (if_neg (by rw [hq]; decide)))
    have hra : 0 ≤ at_ ∧ at_ ≤ 253402300799 := of_decide_eq_true hq
    clear hq HR
    have v0 : w3.cell? ⟨w.heap.size, 0, none⟩ = some (.string (bstr who)) := HKV3.out.cell 0
    have v1 : w3.cell? ⟨w.heap.size, 1, none⟩ = some (.bool house) := HKV3.out.cell 1
    go_wp2_with fail
    refine (eyeOf_any vt t who house w3 (Rp.ext _ HT.out HB3.out) HTG.out).mono ?_
    rintro e w5 ⟨A5, c5, rfl, hnn, hb⟩
    have hal := (Below.refl w5.heap.size w5).alloc (Nat.le_refl _) (.cells #[.bool house, .slice A5 (eyeT t who t.length).length c5] 52)
    have HB5 := Lib.hid ((HB3.out.trans (hb.mono HB3.out.size)).trans (hal.mono (Nat.le_trans HB3.out.size hb.size)))
    have HKV5 := Lib.hid ((HKV3.out.same (same_below hb) HKV3.out.lt).same (same_below hal) (Nat.lt_of_lt_of_le HKV3.out.lt hb.size))
    have HKC5 := Lib.hid ((HKC3.out.same (same_below hb) HKC3.out.lt).same (same_below hal) (Nat.lt_of_lt_of_le HKC3.out.lt hb.size))
    have HKE5 := Lib.hid (Blk.new w5 52 [.bool house, .slice A5 (eyeT t who t.length).length c5])
    have HNN := Lib.hid (Rp.ext _ hnn hal)
    clear hb hal hnn HB3 HKV3 HKC3
    have c0 : (w5.alloc (.cells #[.bool house, .slice A5 (eyeT t who t.length).length c5] 52)).cell? ⟨w.heap.size + 1, 0, none⟩ = some (.string (bstr c.key)) := HKC5.out.cell 0
    have c1 : (w5.alloc (.cells #[.bool house, .slice A5 (eyeT t who t.length).length c5] 52)).cell? ⟨w.heap.size + 1, 1, none⟩ = some (.int .i64 c.time) := HKC5.out.cell 1
    clear v0 v1
    go_wp2_with fail
    clear c0 c1
    obtain ⟨eb, heb⟩ : ∃ eb, eb = w5.heap.size := ⟨_, rfl⟩
    rw [← heb] at HKE5 ⊢
    clear heb
    generalize w5.alloc (.cells #[.bool house, .slice A5 (eyeT t who t.length).length c5] 52) = w6 at *
    refine (edges_any v l c at_ w6 (Rp.ext _ H0.out HB5.out) (by omega) hck).mono ?_
    rintro e w7 ⟨ve, es, rfl, ho, hpw, hmem, hel, hb⟩
    have HMA : Hid (∀ W n, Below w6.heap.size w6 W → Calls Tryz.prog 20 #[.agg #[.bool house, .slice A5 (eyeT t who t.length).length c5], v, .agg #[.string (bstr c.key), .int .i64 c.time], .int .i64 n] W fun e w' => e = .returned (.bool (mayB t l who house c n)) ∧ Below W.heap.size W w') := Lib.hid (fun W n hW => by
      have h := may_any _ _ house v l c n W (Rp.ext _ HNN.out hW) (Rp.ext _ (Rp.ext _ H0.out HB5.out) hW) (by omega) hck
      rw [mayT_eq HTF.out HRG.out] at h
      exact h)
    have HB7 := Lib.hid (HB5.out.trans (hb.mono HB5.out.size))
    have HG7 := Lib.hid hb
    have HO7 := Lib.hid ho
    have HPW := Lib.hid hpw
    have HMEM := Lib.hid hmem
    have HKC7 := Lib.hid (HKC5.out.same (same_below hb) HKC5.out.lt)
    have HKE7 := Lib.hid (HKE5.out.same (same_below hb) HKE5.out.lt)
    have HST : Hid (Steps (mayB t l who house c) 253402300799 es at_) := Lib.hid (steps_of (fun n h1 h2 h3 => (hmem n).2 (.inr ⟨h1, h2, h3⟩)))
    have HAT : Hid (at_ ∈ es) := Lib.hid ((hmem at_).2 (.inl rfl))
    obtain ⟨Ae, ce, hve, hce1, hce2, _⟩ := own_form ho
    subst hve
    clear hb ho hpw hmem HB5 HKC5 HKE5 HKV5
    go_wp2_with fail
    go_loopw [35] (fun vi wr => ∃ k : Nat, k ≤ es.length ∧ vi = .int .i64 k ∧ Hid (∀ j, (hj : j < es.length) → j < k → mayB t l who house c es[j] = false) ∧ Hid (Below w7.heap.size w7 wr)) (fun vi _ => es.length - (intOf vi).toNat)
    case atStart => exact ⟨0, by omega, rfl, Lib.hid (fun j hj h => absurd h (by omega)), Below.refl _ _⟩
    case round =>
      obtain ⟨k, hk, rfl, HP, HBR⟩ := hrel
      have HBZ := Lib.hid (HB7.out.trans (HBR.out.mono HB7.out.size))
      by_cases hlt : k < es.length
      · have hown := own_below HO7.out HBR.out
        have e0 : ∃ g, Ae = some ⟨g, 0, none⟩ ∧ wr.cell? ⟨g, k, none⟩ = some (.int .i64 es[k]) := by
          rcases hown.2 with ⟨h1, h2⟩ | ⟨g, cap, cur, h1, _⟩
          · omega
          · injection h1 with h1 _ _
            subst h1
            refine ⟨g, rfl, ?_⟩
            rw [hown.cellAt k (by omega)]
            simp [hlt]
        obtain ⟨g, rfl, e0⟩ := e0
        clear hown
        have HMN : Hid (es[k] = at_ ∨ Brk l c es[k] ∧ at_ < es[k] ∧ es[k] ≤ 253402300799) := Lib.hid ((HMEM.out _).1 (List.getElem_mem hlt))
        have HYES : Hid (mayB t l who house c es[k] = true → IsOpen (mayB t l who house c) at_ 253402300799 es[k]) := Lib.hid (fun h => open_some HST.out HAT.out HPW.out hlt (by rcases HMN.out with e | e <;> omega) h HP.out)
        have HNO : Hid (mayB t l who house c es[k] = false → ∀ j, (hj : j < es.length) → j < k + 1 → mayB t l who house c es[j] = false) := Lib.hid (fun h j hj hjk => by
          rcases Nat.lt_or_eq_of_le (Nat.lt_succ_iff.1 hjk) with e | e
          · exact HP.out j hj e
          · subst e; exact h)
        have hMAK := HMA.out wr es[k] (HG7.out.trans (HBR.out.mono HG7.out.size))
        have HMAK := Lib.hid hMAK
        clear hMAK HMN
        have HKC8 := HKC7.out.same (same_below HBR.out) HKC7.out.lt
        have HKE8 := HKE7.out.same (same_below HBR.out) HKE7.out.lt
        have c0 : wr.cell? ⟨w.heap.size + 1, 0, none⟩ = some (.string (bstr c.key)) := HKC8.cell 0
        have c1 : wr.cell? ⟨w.heap.size + 1, 1, none⟩ = some (.int .i64 c.time) := HKC8.cell 1
        have y0 : wr.cell? ⟨eb, 0, none⟩ = some (.bool house) := HKE8.cell 0
        have y1 : wr.cell? ⟨eb, 1, none⟩ = some (.slice A5 (eyeT t who t.length).length c5) := HKE8.cell 1
        clear HKC8 HKE8
        generalize es[k] = n at *
        go_wp2_with fail
        refine HMAK.out.mono ?_
        rintro e w8 ⟨rfl, hb⟩
        have HB8 := Lib.hid (HBR.out.trans (hb.mono HBR.out.size))
        clear hb c0 c1 y0 y1 e0
        cases hq : mayB t l who house c n with
        | true =>
          have HI := Lib.hid (HYES.out hq)
          clear hq
          go_wp2_with fail
          go_ret2
          exact ⟨n, by rw [HF.out]; rfl, fun _ => HI.out, fun h => absurd HF.out h, HB7.out.trans (HB8.out.mono HB7.out.size)⟩
        | false =>
          have HN := Lib.hid (HNO.out hq)
          clear hq
          go_wp2_with fail
          go_roundw
          case rel => first | exact ⟨k + 1, by omega, by go_num, HN, HB8⟩ | (repeat (apply Exists.intro); (refine And.intro ?_ ?_; rotate_left; (repeat' (first | exact rfl | apply And.intro)); exact ⟨k + 1, by omega, by go_num, HN, HB8⟩))
          case measure => simp [intOf]; omega
      · obtain rfl : k = es.length := by omega
        have HI := Lib.hid (open_none HST.out HAT.out (fun j hj => HP.out j hj hj))
        go_wp2_with fail
        go_ret2
        exact ⟨-1, by rw [HF.out]; rfl, fun _ => HI.out, fun h => absurd HF.out h, HBZ.out⟩
end Go.Proofs.YtfgglpjmkahphaaGreatDoor
