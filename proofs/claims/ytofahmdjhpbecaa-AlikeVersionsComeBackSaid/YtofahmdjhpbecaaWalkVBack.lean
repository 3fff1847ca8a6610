/-
  The law 'AlikeVersionsComeBack' walked: it returns true.
-/
import Derived.Test.YtofahmdjhpbecaaDig
import Derived.Test.YtofahmdjhpbecaaKept
import Derived.Test.YtofahmdjhpbecaaRest
import Derived.Test.YtofahmdjhpbecaaEq
namespace Go.Proofs.Ytofahmdjhpbecaa
open Go.RowKit
set_option linter.unusedVariables false

theorem delta_fits {base b : List UInt8} (h2 : b.length ≤ 3000) : (Rp.sl cpRp).fits (deltaL base b) := by
  have hl := deltaL_len (base := base) (b := b)
  have hd := deltaL_ok base b
  refine ⟨by omega, fun c hc => ⟨trivial, trivial, ?_, fun _ _ => trivial⟩⟩
  have hb := bs_le (base := base) hc
  rw [hd.2] at hb
  show c.bs.length ≤ _
  omega
theorem getD_small {l : List (List UInt8)} (hl : ∀ b ∈ l, b.length ≤ 3000) (i : Nat) : (l.getD i []).length ≤ 3000 := by
  rw [List.getD_eq_getElem?_getD]
  cases h : l[i]? with
  | none => simp
  | some b => exact hl b (List.mem_of_getElem? h)
theorem kept_fits {l : List (List UInt8)} (most : Int) (hl : ∀ b ∈ l, b.length ≤ 3000) (h3 : l.length ≤ 300) : (Rp.sl verRp).fits (keptK l most l.length).1 := by
  have hlen := (keptK_len l most l.length).1
  refine ⟨by omega, fun c hc => ?_⟩
  obtain ⟨i, hi, rfl⟩ := List.getElem_of_mem hc
  obtain ⟨c, h1, h2⟩ := keptK_at l most l.length i (by omega)
  rw [List.getElem?_eq_getElem hi] at h1
  injection h1 with h1
  rw [h1]
  rcases h2 with rfl | ⟨_, rfl⟩
  · have hs := getD_small hl i
    exact ⟨trivial, ⟨by show (l.getD i []).length ≤ _; omega, fun _ _ => trivial⟩, ⟨Nat.zero_le _, fun _ h => by cases h⟩⟩
  · exact ⟨trivial, ⟨Nat.zero_le _, fun _ h => by cases h⟩, delta_fits (getD_small hl i)⟩
theorem kept_ok {l : List (List UInt8)} {most : Int} (h : keptFault l most = 0) : (∀ b ∈ l, b.length ≤ 3000) ∧ l.length ≤ 300 := by
  unfold keptFault at h
  split at h
  · cases h
  · rename_i hb
    have hb' : keptBad l = false := by simpa using hb
    simp only [keptBad, Bool.or_eq_false_iff, decide_eq_false_iff_not, List.any_eq_false, decide_eq_true_eq] at hb'
    exact ⟨fun b hb => by have := hb'.2 b hb; omega, by omega⟩

set_option maxRecDepth 100000 in
set_option maxHeartbeats 1000000 in
theorem vbackLaw_any (v0 : Value) (l : List (List UInt8)) (v1 : Value) (most : Int) (w : World) (h0 : (Rp.sl (Rp.sl Rp.u8)).ok w (· < w.heap.size) [v0] l) (f0 : (Rp.sl (Rp.sl Rp.u8)).fits l)
    (h1 : (Rp.int .i64).ok w (· < w.heap.size) [v1] most) (f1 : (Rp.int .i64).fits most) :
    Calls Try.prog 9 #[v0, v1] w fun e w' => e = .returned (.bool true) ∧ Below w.heap.size w w' := by
  obtain ⟨e1, _⟩ := h1
  injection e1 with e1
  subst e1
  have H0 := Lib.hid h0
  obtain ⟨A, c, rfl, hl, hc, _⟩ := Rp.sl_open h0
  unfold maxLen at hc
  clear h0 f0 f1
  by_cases hf : keptFault l most = 0
  · obtain ⟨hs, h3⟩ := kept_ok hf
    have ho : keptOut l most = (keptK l most l.length).1 := by rw [keptOut, if_pos hf]
    have HF := Lib.hid hf
    have HO := Lib.hid ho
    have HFT := Lib.hid (kept_fits most hs h3)
    have HS := Lib.hid hs
    clear hf ho hs
    go_enter Try.func9, Try.ntmps9
    go_wp2_with fail
    refine (kept_any _ l most w H0.out).mono ?_
    rintro e w1 ⟨x, rfl, hx, hb1⟩
    rw [HO.out] at hx
    have HX := Lib.hid hx
    have HB1 := Lib.hid hb1
    clear hx hb1
    rw [HF.out]
    go_wp2
    go_loopw [27] (fun i wr => ∃ k : Nat, k ≤ l.length ∧ i = .int .i64 k ∧ Hid (Below w1.heap.size w1 wr)) (fun i _ => l.length - (intOf i).toNat)
    case atStart => exact ⟨0, by omega, rfl, Below.refl _ _⟩
    case round =>
      obtain ⟨k, hk, rfl, HB⟩ := hrel
      by_cases hlt : k < l.length
      · have HBW := Lib.hid (ext_trans HB1.out HB.out)
        obtain ⟨ad, u, rfl, _, hu, hcell⟩ := Rp.sl_at1 rfl (Rp.below _ H0.out HBW.out) hlt
        obtain ⟨A2, c2, rfl, hl2, hc2, _⟩ := Rp.sl_open hu
        have HU := Lib.hid hu
        have hkb := kept_back (most := most) HS.out h3 hlt
        have HKB := Lib.hid hkb
        clear hu hkb
        go_wp2_with fail
        refine (restored_any _ _ k wr (Rp.ext _ HX.out HB.out) HFT.out).mono ?_
        rintro e w2 ⟨y, rfl, hy, hb2⟩
        rw [HKB.out] at hy ⊢
        have HY := Lib.hid hy
        have HB2 := Lib.hid (ext_trans HB.out hb2)
        have HU2 := Lib.hid (Rp.below _ HU.out (hb2.mono HBW.out.size))
        clear hy hb2
        go_wp2_with fail
        refine (eqBytes_any _ _ l[k] l[k] w2 _ _ HY.out HU2.out).mono ?_
        rintro e w3 ⟨rfl, n, rfl⟩
        rw [decide_eq_true rfl]
        have HB3 := Lib.hid (below_drewN HB2.out n)
        go_wp2
        go_roundw
        case rel => exact ⟨k + 1, by omega, by go_num, HB3⟩
        case measure => simp [intOf]; omega
      · go_wp2_with fail
        refine (awake_any _).mono ?_
        rintro e w6 ⟨rfl, hb6⟩
        have B6 := Lib.hid (ext_trans (ext_trans HB1.out HB.out) hb6)
        clear hb6
        go_wp2
        go_ret
        exact ⟨rfl, B6.out⟩
  · have ho : keptOut l most = [] := by rw [keptOut, if_neg hf]
    have HO := Lib.hid ho
    have hfb : (keptFault l most != 0) = true := by rw [bne_iff_ne]; exact hf
    have HF := Lib.hid hf
    clear ho hf
    go_enter Try.func9, Try.ntmps9
    go_wp2_with fail
    refine (kept_any _ l most w H0.out).mono ?_
    rintro e w1 ⟨x, rfl, hx, hb1⟩
    rw [HO.out] at hx
    obtain ⟨A2, c2, rfl, _⟩ := Rp.sl_open hx
    have HB1 := Lib.hid hb1
    clear hx hb1
    go_wp2_with fail
    refine (awake_any _).mono ?_
    rintro e w6 ⟨rfl, hb6⟩
    have B6 := Lib.hid (ext_trans HB1.out hb6)
    clear hb6
    go_wp2
    go_ret
    exact ⟨rfl, B6.out⟩
end Go.Proofs.Ytofahmdjhpbecaa
