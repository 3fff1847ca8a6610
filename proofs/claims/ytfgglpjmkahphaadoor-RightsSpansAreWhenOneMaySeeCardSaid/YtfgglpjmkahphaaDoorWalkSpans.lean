/-
  The law 'RightsSpansAreWhenOneMaySee' walked: it returns true.
-/
import Derived.Test.YtfgglpjmkahphaaDoorHas
import Derived.Test.YtfgglpjmkahphaaDoorHideP
import Derived.Test.YtfgglpjmkahphaaDoorVwr
import Derived.Test.YtfgglpjmkahphaaDoorAwake10
namespace Go.Proofs.YtfgglpjmkahphaaDoor
open Go.RowKit
set_option linter.unusedVariables false
set_option linter.unusedSimpArgs false

theorem may_ask {t : List Team} {l : List Rgt} {who : List UInt8} {house : Bool} {c : Cap} {at_ : Int} (h : (mayTop t l who house c at_).2 = 0) : askF t l who c = 0 ∧ opF t l who c at_ = 0 ∧ (mayTop t l who house c at_).1 = mayB t l who house c at_ := by
  have ha : askF t l who c = 0 := by
    unfold mayTop at h
    split at h
    · rename_i h'; exact absurd h h'
    · rename_i h'; exact Decidable.not_not.1 h'
  have hr := (may_len h).2
  refine ⟨ha, ?_, ?_⟩
  · rw [opF, if_neg (by rw [ha]; decide), if_neg (by rw [hr]; decide)]
  · rw [mayTop, if_neg (by rw [ha]; decide), if_neg (by rw [hr]; decide)]
set_option maxRecDepth 100000 in
set_option maxHeartbeats 4000000 in
theorem spansLaw_any (v0 : Value) (t : List Team) (v1 : Value) (l : List Rgt) (cs2 : Array Value) (vw2 : Vwr) (cs3 : Array Value) (c : Cap) (v4 : Value) (at_ : Int) (w : World) (h0 : (Rp.sl teamRp).ok w (· < w.heap.size) [v0] t) (f0 : (Rp.sl teamRp).fits t) (h1 : (Rp.sl rgtRp).ok w (· < w.heap.size) [v1] l) (f1 : (Rp.sl rgtRp).fits l) (h2 : vwrRp.ok w (· < w.heap.size) cs2.toList vw2) (f2 : vwrRp.fits vw2) (h3 : capRp.ok w (· < w.heap.size) cs3.toList c) (f3 : capRp.fits c) (h4 : (Rp.int .i64).ok w (· < w.heap.size) [v4] at_) (f4 : (Rp.int .i64).fits at_) :
    Calls Tryd.prog 5 #[v0, v1, .agg cs2, .agg cs3, v4] w fun e w' => e = .returned (.bool true) ∧ Below w.heap.size w w' := by
  obtain ⟨who, house⟩ := vw2
  obtain ⟨e2, hwl0⟩ := vwr_open h2
  obtain rfl : cs2 = #[.string (bstr who), .bool house] := by apply Array.toList_inj.1; rw [e2]; rfl
  have hwl : who.length ≤ 9223372036854775807 := hwl0
  clear h2 f2 e2 hwl0
  obtain ⟨e3, hck0, _⟩ := cap_open h3
  obtain rfl : cs3 = #[.string (bstr c.key), .int .i64 c.time] := by apply Array.toList_inj.1; rw [e3]; rfl
  have hck : c.key.length ≤ 9223372036854775807 := hck0
  clear h3 f3 e3 hck0
  obtain ⟨e4, hw_at_⟩ := h4
  injection e4 with e4
  subst e4
  clear f4
  have H0 := Lib.hid h0
  clear h0 f0
  have H1 := Lib.hid h1
  clear h1 f1
  have hl0 := (Below.refl w.heap.size _).alloc (Nat.le_refl _) (.cells #[.string (bstr who), .bool house] 38)
  have hl1 := (Below.refl (w.alloc (.cells #[.string (bstr who), .bool house] 38)).heap.size _).alloc (Nat.le_refl _) (.cells #[.string (bstr c.key), .int .i64 c.time] 40)
  have HBA : Hid (Below w.heap.size w ((w.alloc (.cells #[.string (bstr who), .bool house] 38)).alloc (.cells #[.string (bstr c.key), .int .i64 c.time] 40))) := Lib.hid ((hl0).trans (hl1.mono (by simp <;> omega)))
  have hk0 : Blk ((w.alloc (.cells #[.string (bstr who), .bool house] 38)).alloc (.cells #[.string (bstr c.key), .int .i64 c.time] 40)) (w.heap.size) 38 [.string (bstr who), .bool house] := by
    have h := (Blk.new w 38 [.string (bstr who), .bool house]).same (same_below hl1) (by simp <;> omega)
    simpa only [World.size_alloc] using h
  have HKVA := Lib.hid hk0
  have hk1 : Blk ((w.alloc (.cells #[.string (bstr who), .bool house] 38)).alloc (.cells #[.string (bstr c.key), .int .i64 c.time] 40)) (w.heap.size + 1) 40 [.string (bstr c.key), .int .i64 c.time] := by
    have h := Blk.new (w.alloc (.cells #[.string (bstr who), .bool house] 38)) 40 [.string (bstr c.key), .int .i64 c.time]
    simpa only [World.size_alloc] using h
  have HKCA := Lib.hid hk1
  clear hl0 hk0 hl1 hk1
  go_enter Tryd.func5, Tryd.ntmps5
  have m0 : ((w.alloc (.cells #[.string (bstr who), .bool house] 38)).alloc (.cells #[.string (bstr c.key), .int .i64 c.time] 40)).cell? ⟨w.heap.size, 0, none⟩ = some (.string (bstr who)) := HKVA.out.cell 0
  have m1 : ((w.alloc (.cells #[.string (bstr who), .bool house] 38)).alloc (.cells #[.string (bstr c.key), .int .i64 c.time] 40)).cell? ⟨w.heap.size, 1, none⟩ = some (.bool house) := HKVA.out.cell 1
  have c0 : ((w.alloc (.cells #[.string (bstr who), .bool house] 38)).alloc (.cells #[.string (bstr c.key), .int .i64 c.time] 40)).cell? ⟨w.heap.size + 1, 0, none⟩ = some (.string (bstr c.key)) := HKCA.out.cell 0
  have c1 : ((w.alloc (.cells #[.string (bstr who), .bool house] 38)).alloc (.cells #[.string (bstr c.key), .int .i64 c.time] 40)).cell? ⟨w.heap.size + 1, 1, none⟩ = some (.int .i64 c.time) := HKCA.out.cell 1
  go_wp2_with fail
  clear m0 m1 c0 c1
  generalize ((w.alloc (.cells #[.string (bstr who), .bool house] 38)).alloc (.cells #[.string (bstr c.key), .int .i64 c.time] 40)) = wA at *
  refine (mayTop_any _ t _ l who house c at_ wA (Rp.ext _ H0.out HBA.out) (Rp.ext _ H1.out HBA.out) hck hwl).mono ?_
  rintro e w3 ⟨rfl, hb⟩
  have HB3 := Lib.hid (HBA.out.trans (hb.mono HBA.out.size))
  have HKV3 := Lib.hid (HKVA.out.same (same_below hb) HKVA.out.lt)
  have HKC3 := Lib.hid (HKCA.out.same (same_below hb) HKCA.out.lt)
  clear hb HBA HKVA HKCA
  by_cases hf : (mayTop t l who house c at_).2 = 0
  case neg =>
    have hz := may_no hf
    have hn : ((mayTop t l who house c at_).2 != 0) = true := by simpa using hf
    rw [hz]
    clear hf hz
    generalize (mayTop t l who house c at_).2 = f at *
    go_wp2_with fail
    refine (awake_any _).mono ?_
    rintro e wz ⟨rfl, hb⟩
    have HBZ := Lib.hid (HB3.out.trans (hb.mono HB3.out.size))
    clear hb
    go_wp2_with fail
    go_ret
    exact ⟨rfl, HBZ.out⟩
  obtain ⟨ha, ho, hm1⟩ := may_ask hf
  have hra : 0 ≤ at_ ∧ at_ ≤ 253402300799 := of_decide_eq_true (may_len hf).2
  have HASK := Lib.hid ha
  have HOP := Lib.hid ho
  rw [hf, hm1]
  clear hf hm1 ha ho
  have m0 : w3.cell? ⟨w.heap.size, 0, none⟩ = some (.string (bstr who)) := HKV3.out.cell 0
  have m1 : w3.cell? ⟨w.heap.size, 1, none⟩ = some (.bool house) := HKV3.out.cell 1
  have c0 : w3.cell? ⟨w.heap.size + 1, 0, none⟩ = some (.string (bstr c.key)) := HKC3.out.cell 0
  have c1 : w3.cell? ⟨w.heap.size + 1, 1, none⟩ = some (.int .i64 c.time) := HKC3.out.cell 1
  go_wp2_with fail
  clear m0 m1 c0 c1
  refine (spans_any _ t _ l who house c w3 (Rp.ext _ H0.out HB3.out) (Rp.ext _ H1.out HB3.out) hck hwl).mono ?_
  rintro e w4 ⟨vx, xs, rfl, hx, hsp, _, hxl, hb⟩
  have HB4 := Lib.hid (HB3.out.trans (hb.mono HB3.out.size))
  have HKV4 := Lib.hid (HKV3.out.same (same_below hb) HKV3.out.lt)
  have HKC4 := Lib.hid (HKC3.out.same (same_below hb) HKC3.out.lt)
  have HX4 := Lib.hid hx
  have HSP := Lib.hid (hsp HASK.out)
  clear hx hsp
  clear hb HB3 HKV3 HKC3
  rw [HASK.out]
  have HHAS := Lib.hid (has_law HSP.out hra)
  obtain ⟨Ax, cx, hvx, hcx1, hcx2, _⟩ := Rp.sl_open HX4.out
  subst hvx
  unfold maxLen at hcx2
  go_wp2_with fail
  refine (has_any _ xs at_ w4 HX4.out).mono ?_
  rintro e w5 ⟨rfl, hb⟩
  rw [HHAS.out]
  have HX5 := Lib.hid (Rp.ext _ HX4.out hb)
  have HB5 := Lib.hid (HB4.out.trans (hb.mono HB4.out.size))
  have HKV5 := Lib.hid (HKV4.out.same (same_below hb) HKV4.out.lt)
  have HKC5 := Lib.hid (HKC4.out.same (same_below hb) HKC4.out.lt)
  clear hb HX4 HB4 HKV4 HKC4 HHAS
  generalize hmb : mayB t l who house c at_ = may at *
  clear hmb
  have hmm : (may != may) = false := by cases may <;> rfl
  go_wp2_with fail
  refine (awake_any _).mono ?_
  rintro e w6 ⟨rfl, hb⟩
  have HX6 := Lib.hid (Rp.ext _ HX5.out hb)
  have HB6 := Lib.hid (HB5.out.trans (hb.mono HB5.out.size))
  have HKV6 := Lib.hid (HKV5.out.same (same_below hb) HKV5.out.lt)
  have HKC6 := Lib.hid (HKC5.out.same (same_below hb) HKC5.out.lt)
  clear hb HX5 HB5 HKV5 HKC5 hmm
  go_wp2_with fail
  refine (ends_any _ xs w6 HX6.out (by omega)).mono ?_
  rintro e w7 ⟨ve, rfl, ho, hb⟩
  have HX7 := Lib.hid (Rp.ext _ HX6.out hb)
  have HB7 := Lib.hid (HB6.out.trans (hb.mono HB6.out.size))
  have HKV7 := Lib.hid (HKV6.out.same (same_below hb) HKV6.out.lt)
  have HKC7 := Lib.hid (HKC6.out.same (same_below hb) HKC6.out.lt)
  have HO7 := Lib.hid ho
  have HEND := Lib.hid (fun i (hi : i < (endsL xs).length) => ends_ok HSP.out hi)
  obtain ⟨Ae, ce, hve, hce1, hce2, _⟩ := own_form ho
  subst hve
  have hne : (endsL xs).length ≤ 200000 := by rw [endsL_len]; omega
  clear hb ho HX6 HB6 HKV6 HKC6
  go_wp2_with fail
  go_loopw [62] (fun vi wr => ∃ k : Nat, k ≤ (endsL xs).length ∧ vi = .int .i64 k ∧ Hid (Below w7.heap.size w7 wr)) (fun vi _ => (endsL xs).length - (intOf vi).toNat)
  case atStart => exact ⟨0, by omega, rfl, Below.refl _ _⟩
  case round =>
    obtain ⟨k, hk, rfl, HBR⟩ := hrel
    by_cases hlt : k < (endsL xs).length
    · have hown := own_below HO7.out HBR.out
      obtain ⟨hn0, hn1, hn2⟩ := HEND.out k hlt
      have e0 : ∃ g, Ae = some ⟨g, 0, none⟩ ∧ wr.cell? ⟨g, k, none⟩ = some (.int .i64 (endsL xs)[k]) ∧ ∀ h0 : 0 < k, wr.cell? ⟨g, k - 1, none⟩ = some (.int .i64 ((endsL xs)[k - 1]'(by omega))) := by
        rcases hown.2 with ⟨h1, h2⟩ | ⟨g, cap, cur, h1, _⟩
        · omega
        · injection h1 with h1 _ _
          subst h1
          refine ⟨g, rfl, ?_, fun h0 => ?_⟩
          · rw [hown.cellAt k (by omega)]; simp [hlt]
          · rw [hown.cellAt (k - 1) (by omega)]; simp [show k - 1 < (endsL xs).length by omega]
      obtain ⟨g, rfl, e0, e1⟩ := e0
      clear hown
      by_cases hk0 : 0 < k
      · have e1' := e1 hk0
        have hn2' := hn2 hk0
        clear e1 hn2
        generalize (endsL xs)[k] = n at *
        generalize (endsL xs)[k - 1]'(by omega) = n' at *
        have q1 : IntKind.i64.wrap ((k : Int) - 1) = (k : Int) - 1 := by rw [IntKind.wrap_i64]; omega
        have q2 : ((k : Int) - 1).toNat = k - 1 := by omega
        have q3 : (0 : Int) ≤ (k : Int) - 1 := by omega
        have q4 : (k : Int) - 1 < ((endsL xs).length : Int) := by omega
        have q5 : (0 : Int) < (k : Int) := by omega
        have q6 : ¬ n ≤ n' := by omega
        have q7 : ¬ n < 0 := by omega
        have q8 : ¬ (253402300800 : Int) < n := by omega
        have q9 : (1 : Int) ≤ (k : Int) := by omega
        go_wp2_with fail
        go_roundw
        case rel => first | exact ⟨k + 1, by omega, by go_num, HBR⟩ | (repeat (apply Exists.intro); (refine And.intro ?_ ?_; rotate_left; (repeat' (first | exact rfl | apply And.intro)); exact ⟨k + 1, by omega, by go_num, HBR⟩))
        case measure => simp [intOf]; omega
      · obtain rfl : k = 0 := by omega
        clear e1 hn2
        generalize (endsL xs)[0] = n at *
        have q7 : ¬ n < 0 := by omega
        have q8 : ¬ (253402300800 : Int) < n := by omega
        have q5 : (0 : Int) < ((endsL xs).length : Int) := by omega
        go_wp2_with fail
        go_roundw
        case rel => first | exact ⟨1, by omega, by go_num, HBR⟩ | (repeat (apply Exists.intro); (refine And.intro ?_ ?_; rotate_left; (repeat' (first | exact rfl | apply And.intro)); exact ⟨1, by omega, by go_num, HBR⟩))
        case measure => simp [intOf]; omega
    · obtain rfl : k = (endsL xs).length := by omega
      have HX8 := Lib.hid (Rp.ext _ HX7.out HBR.out)
      have HB8 := Lib.hid (HB7.out.trans (HBR.out.mono HB7.out.size))
      have HKV8 := Lib.hid (HKV7.out.same (same_below HBR.out) HKV7.out.lt)
      have HKC8 := Lib.hid (HKC7.out.same (same_below HBR.out) HKC7.out.lt)
      clear HX7 HB7 HKV7 HKC7 HBR HO7 HEND
      obtain ⟨w8, hw8⟩ : ∃ w8, w8 = wr := ⟨_, rfl⟩
      rw [← hw8] at HX8 HB8 HKV8 HKC8 ⊢
      clear hw8
      generalize (endsL xs).length = ne at *
      go_wp2_with fail
      go_loopw [17, 89] (fun vf vi wr => ∃ k : Nat, k ≤ xs.length ∧ vi = .int .i64 k ∧ vf = .int .i64 (fsAt xs at_ k) ∧ Hid (Below w8.heap.size w8 wr)) (fun _ vi _ => xs.length - (intOf vi).toNat)
      case atStart => exact ⟨0, by omega, rfl, rfl, Below.refl _ _⟩
      case round =>
        obtain ⟨k, hk, rfl, hvf, HBR⟩ := hrel
        subst hvf
        by_cases hlt : k < xs.length
        · obtain ⟨ad, c', e1, hadb, c0, c1⟩ := st_at (Rp.below _ HX8.out HBR.out) hlt
          cases e1
          have HFS : Hid (fsAt xs at_ (k + 1) = if fsAt xs at_ k < 0 ∧ at_ < xs[k].2 then max xs[k].1 at_ else fsAt xs at_ k) := Lib.hid (by
            rw [fsAt, show xs.getD k (0, 0) = xs[k] by rw [List.getD_eq_getElem?_getD, List.getElem?_eq_getElem hlt]; rfl])
          generalize xs[k] = x at *
          generalize fsAt xs at_ k = F at *
          have HB4 := Lib.hid (HBR.out.trans (((Below.refl wr.heap.size wr).alloc (Nat.le_refl _) (.cells #[.int .i64 x.1, .int .i64 x.2] 50)).mono HBR.out.size))
          have hkx := Blk.new wr 50 [.int .i64 x.1, .int .i64 x.2]
          have x0 : (wr.alloc (.cells #[.int .i64 x.1, .int .i64 x.2] 50)).cell? ⟨wr.heap.size, 0, none⟩ = some (.int .i64 x.1) := hkx.cell 0
          have x1 : (wr.alloc (.cells #[.int .i64 x.1, .int .i64 x.2] 50)).cell? ⟨wr.heap.size, 1, none⟩ = some (.int .i64 x.2) := hkx.cell 1
          clear hkx
          by_cases h1 : F < 0
          · by_cases h2 : at_ < x.2
            · have HE := Lib.hid (HFS.out.trans (if_pos ⟨h1, h2⟩))
              clear HFS
              go_wp2_with fail
              go_roundw
              case rel => first | exact ⟨k + 1, by omega, by go_num, by rw [HE.out], HB4⟩ | (repeat (apply Exists.intro); (refine And.intro ?_ ?_; rotate_left; (repeat' (first | exact rfl | apply And.intro)); exact ⟨k + 1, by omega, by go_num, by rw [HE.out], HB4⟩))
              case measure => simp [intOf]; omega
            · have HE := Lib.hid (HFS.out.trans (if_neg (fun e => h2 e.2)))
              clear HFS
              go_wp2_with fail
              go_roundw
              case rel => first | exact ⟨k + 1, by omega, by go_num, by rw [HE.out], HB4⟩ | (repeat (apply Exists.intro); (refine And.intro ?_ ?_; rotate_left; (repeat' (first | exact rfl | apply And.intro)); exact ⟨k + 1, by omega, by go_num, by rw [HE.out], HB4⟩))
              case measure => simp [intOf]; omega
          · have HE := Lib.hid (HFS.out.trans (if_neg (fun e => h1 e.1)))
            clear HFS
            go_wp2_with fail
            go_roundw
            case rel => first | exact ⟨k + 1, by omega, by go_num, by rw [HE.out], HB4⟩ | (repeat (apply Exists.intro); (refine And.intro ?_ ?_; rotate_left; (repeat' (first | exact rfl | apply And.intro)); exact ⟨k + 1, by omega, by go_num, by rw [HE.out], HB4⟩))
            case measure => simp [intOf]; omega
        · obtain rfl : k = xs.length := by omega
          have HFO := Lib.hid (fs_open HSP.out hra)
          have HB9 := Lib.hid (HB8.out.trans (HBR.out.mono HB8.out.size))
          have HKV9 := Lib.hid (HKV8.out.same (same_below HBR.out) HKV8.out.lt)
          have HKC9 := Lib.hid (HKC8.out.same (same_below HBR.out) HKC8.out.lt)
          generalize fsAt xs at_ xs.length = F at *
          clear HB8 HKV8 HKC8 HBR HX8
          have m0 : wr.cell? ⟨w.heap.size, 0, none⟩ = some (.string (bstr who)) := HKV9.out.cell 0
          have m1 : wr.cell? ⟨w.heap.size, 1, none⟩ = some (.bool house) := HKV9.out.cell 1
          have c0 : wr.cell? ⟨w.heap.size + 1, 0, none⟩ = some (.string (bstr c.key)) := HKC9.out.cell 0
          have c1 : wr.cell? ⟨w.heap.size + 1, 1, none⟩ = some (.int .i64 c.time) := HKC9.out.cell 1
          go_wp2_with fail
          refine (opens_any _ t _ l who house c at_ wr (Rp.ext _ H0.out HB9.out) (Rp.ext _ H1.out HB9.out) hck hwl).mono ?_
          rintro e w10 ⟨r, rfl, hop, _, hb⟩
          have HRF : Hid (r = F) := Lib.hid (isOpen_uniq hra.1 (hop HOP.out) HFO.out)
          rw [HOP.out, HRF.out]
          have HB10 := Lib.hid (HB9.out.trans (hb.mono HB9.out.size))
          clear hb hop m0 m1 c0 c1
          go_wp2_with fail
          go_ret
          exact ⟨by simp, HB10.out⟩
end Go.Proofs.YtfgglpjmkahphaaDoor
