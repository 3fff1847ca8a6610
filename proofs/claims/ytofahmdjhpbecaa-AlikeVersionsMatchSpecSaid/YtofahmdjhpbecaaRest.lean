/-
  'Restored' of package alike.
-/
import Derived.Test.YtofahmdjhpbecaaProg
import Derived.Test.YtofahmdjhpbecaaVerPlain
import Derived.Test.YtofahmdjhpbecaaRebuilt
namespace Go.Proofs.Ytofahmdjhpbecaa
open Go.RowKit
set_option linter.unusedVariables false
set_option linter.unusedSimpArgs false

def RestPost (l : List Ver) (n : Int) (w : World) (e : Ending) (w' : World) : Prop :=
  ∃ v, e = .returned (.tuple #[v, .int .i64 (rsAll l n).2]) ∧ (Rp.sl Rp.u8).ok w' (· < w'.heap.size) [v] (rsAll l n).1 ∧ Below w.heap.size w w'
theorem restPost_bad {l : List Ver} {n f : Int} {w w' : World} (h : rsAll l n = ([], f)) (hb : Below w.heap.size w w') : RestPost l n w (.returned (.tuple #[.slice none 0 0, .int .i64 f])) w' := by
  refine ⟨_, by rw [h], ?_, hb⟩
  rw [h]; exact Rp.sl_nil _ _ _
theorem restPost_good {l : List Ver} {n : Int} {w w' : World} {v : Value} {bs : List UInt8} (h : rsAll l n = (bs, 0)) (hv : (Rp.sl Rp.u8).ok w' (· < w'.heap.size) [v] bs) (hb : Below w.heap.size w w') : RestPost l n w (.returned (.tuple #[v, .int .i64 0])) w' := by
  refine ⟨_, by rw [h], ?_, hb⟩
  rw [h]; exact hv
section
variable {out : List UInt8} {part : List Ver} {m : Nat}
theorem rsGo_end (h : part.length ≤ m) : rsGo out (part.drop m) = (out, 0) := by rw [List.drop_of_length_le h]; rfl
theorem rsGo_form (h : m < part.length) (hf : part[m].whole = true ∧ part[m].ps ≠ [] ∨ part[m].whole = false ∧ part[m].bs ≠ []) : rsGo out (part.drop m) = ([], 3) := by
  rw [List.drop_eq_getElem_cons h, rsGo, if_pos hf]
theorem rsGo_large (h : m < part.length) (h1 : part[m].whole = true) (h2 : part[m].ps = []) (h3 : 3000 < part[m].bs.length) : rsGo out (part.drop m) = ([], 2) := by
  rw [List.drop_eq_getElem_cons h, rsGo, if_neg (by rw [h1, h2]; simp), if_pos h1, if_pos h3]
theorem rsGo_whole (h : m < part.length) (h1 : part[m].whole = true) (h2 : part[m].ps = []) (h3 : ¬ 3000 < part[m].bs.length) : rsGo out (part.drop m) = rsGo part[m].bs (part.drop (m + 1)) := by
  rw [List.drop_eq_getElem_cons h, rsGo, if_neg (by rw [h1, h2]; simp), if_pos h1, if_neg h3]
theorem rsGo_fault (h : m < part.length) (h1 : part[m].whole = false) (h2 : part[m].bs = []) (h3 : rbFault out part[m].ps ≠ 0) : rsGo out (part.drop m) = ([], rbFault out part[m].ps) := by
  rw [List.drop_eq_getElem_cons h, rsGo, if_neg (by rw [h1, h2]; simp), if_neg (by rw [h1]; decide), if_pos h3]
theorem rsGo_next (h : m < part.length) (h1 : part[m].whole = false) (h2 : part[m].bs = []) (h3 : rbFault out part[m].ps = 0) : rsGo out (part.drop m) = rsGo (rbRes out part[m].ps) (part.drop (m + 1)) := by
  rw [List.drop_eq_getElem_cons h, rsGo, if_neg (by rw [h1, h2]; simp), if_neg (by rw [h1]; decide), if_neg (by rw [h3]; decide)]
end
theorem rs_from {l : List Ver} {n k : Nat} (hl : l.length ≤ 300) (hn : n < l.length) (h : lastW l (n + 1) = k + 1) : rsAll l n = rsGo [] ((l.drop k).take (n + 1 - k)) := by
  rw [rsAll, if_neg (by omega), if_neg (by omega), Int.toNat_natCast, if_neg (by omega), h, Nat.add_sub_cancel]
theorem ver_fits {l : List Ver} (h : (Rp.sl verRp).fits l) {c : Ver} (hc : c ∈ l) : (Rp.sl cpRp).fits c.ps := (h.2 c hc).2.2

set_option maxRecDepth 100000 in
set_option maxHeartbeats 4000000 in
theorem restored_any (v : Value) (l : List Ver) (n : Int) (w : World) (h : (Rp.sl verRp).ok w (· < w.heap.size) [v] l) (hfit : (Rp.sl verRp).fits l) :
    Calls Try.prog 46 #[v, .int .i64 n] w (RestPost l n w) := by
  obtain ⟨A, c, rfl, hl, hc, _⟩ := Rp.sl_open h
  unfold maxLen at hc
  have H := Lib.hid h
  have HFIT := Lib.hid hfit
  clear h hfit
  by_cases hbig : 300 < l.length
  · have HP := Lib.hid (restPost_bad (l := l) (n := n) (f := 2) (w := w) (w' := w) (by rw [rsAll, if_pos hbig]) (Below.refl _ _))
    go_enter Try.func46, Try.ntmps46
    go_wp2
    go_ret2
    exact HP.out
  by_cases hrg : n < 0 ∨ (l.length : Int) ≤ n
  · have HP := Lib.hid (restPost_bad (l := l) (n := n) (f := 1) (w := w) (w' := w) (by rw [rsAll, if_neg hbig, if_pos hrg]) (Below.refl _ _))
    have key : n < 0 ∨ (0 ≤ n ∧ (l.length : Int) ≤ n) := by omega
    clear hrg
    rcases key with q | ⟨q, q2⟩
    · go_enter Try.func46, Try.ntmps46
      go_wp2
      go_ret2
      exact HP.out
    · go_enter Try.func46, Try.ntmps46
      go_wp2
      go_ret2
      exact HP.out
  obtain ⟨n, rfl⟩ := Int.eq_ofNat_of_zero_le (a := n) (by omega)
  have hn : n < l.length := by omega
  have hle : l.length ≤ 300 := by omega
  clear hrg
  go_enter Try.func46, Try.ntmps46
  go_wp2
  go_loop [6] (fun x => ∃ j : Nat, j ≤ n + 1 ∧ x = .int .i64 ((j : Int) - 1) ∧ Hid (lastW l (n + 1) = lastW l j)) (fun x => (intOf x + 1).toNat)
  case atStart => exact ⟨n + 1, by omega, by congr 1; omega, rfl⟩
  case round =>
    obtain ⟨j, hj, rfl, HL⟩ := hrel
    cases j with
    | zero =>
      have HP := Lib.hid (restPost_bad (l := l) (n := n) (f := 9) (w := w) (w' := w) (by rw [rsAll, if_neg (by omega), if_neg (by omega), Int.toNat_natCast, if_pos (by rw [HL.out]; rfl)]) (Below.refl _ _))
      rw [show ((0 : Nat) : Int) - 1 = -1 from rfl]
      go_wp2
      go_ret2
      exact HP.out
    | succ k =>
      rw [show ((k + 1 : Nat) : Int) - 1 = (k : Int) by omega]
      have hkl : k < l.length := by omega
      obtain ⟨ad, us, rfl, _, _, hu, hcell⟩ := Rp.sl_at H.out hkl
      obtain ⟨v1, v2, rfl, hv1, hv2⟩ := ver_open hu
      have c0 : w.cell? (ad.add (k * 3)) = some (.bool l[k].whole) := hcell 0 _ rfl
      clear hcell hu hv1 hv2
      cases hw : l[k].whole with
      | false =>
        rw [hw] at c0
        have HL2 : Hid (lastW l (n + 1) = lastW l k) := by show _ = _; rw [HL.out, lastW_no hkl hw]
        clear hw
        go_wp2
        go_round
        case rel => exact ⟨k, by omega, rfl, HL2⟩
        case measure => simp [intOf]
      | true =>
        rw [hw] at c0
        have hL : lastW l (n + 1) = k + 1 := by rw [HL.out, lastW_yes hkl hw]
        have hfr := rs_from hle hn hL
        have hcut := Rp.sl_cut H.out (lo := k) (hi := n + 1) (by omega) (by omega)
        have hpl : ((l.drop k).take (n + 1 - k)).length = n + 1 - k := by rw [List.length_take, List.length_drop]; omega
        have hmem : ∀ x ∈ (l.drop k).take (n + 1 - k), x ∈ l := fun x hx => List.mem_of_mem_drop (List.mem_of_mem_take hx)
        generalize hpart : (l.drop k).take (n + 1 - k) = part at *
        have HFR := Lib.hid hfr
        have HCUT := Lib.hid hcut
        have HMEM := Lib.hid hmem
        have hck : ¬ c = k := by omega
        clear hw hL hfr hcut hmem hpart HL
        have hHC : (Rp.sl verRp).ok w (· < w.heap.size) [.slice (some (ad.add (k * 3))) (n + 1 - k) (c - k)] part := HCUT.out
        have HC := Lib.hid hHC
        have i1 : (k : Int) ≤ (n : Int) + 1 := by omega
        have i2 : (n : Int) + 1 ≤ (l.length : Int) := by omega
        clear hHC HCUT
        go_wp2
        clear c0
        generalize ad.add (k * 3) = ap at *
        obtain ⟨M, hM⟩ : ∃ M, n + 1 - k = M := ⟨_, rfl⟩
        have hHC := HC.out
        rw [hM] at hpl hHC ⊢
        have HC := Lib.hid hHC
        have HPL := Lib.hid hpl
        have hM2 : M ≤ 300 := by omega
        clear hHC hM hpl
        go_loopw [7, 44] (fun vo i wr => ∃ (m : Nat) (out : List UInt8), m ≤ M ∧ i = .int .i64 m ∧ Hid ((Rp.sl Rp.u8).ok wr (· < wr.heap.size) [vo] out) ∧ Hid (rsGo out (part.drop m) = rsAll l n) ∧ Hid (Below w.heap.size w wr)) (fun _ i _ => M - (intOf i).toNat)
        case atStart => exact ⟨0, [], by omega, rfl, Rp.sl_nil _ _ _, HFR.out.symm, Below.refl _ _⟩
        case round =>
          obtain ⟨m, out, hm, rfl, HO, HG, HB⟩ := hrel
          by_cases hlt : m < M
          · have hmp : m < part.length := by rw [HPL.out]; exact hlt
            obtain ⟨ap', us, e1, -, -, hu, hcell⟩ := Rp.sl_at (Rp.below _ HC.out HB.out) hmp
            injection e1 with e1
            subst e1
            obtain ⟨v1, v2, rfl, hv1, hv2⟩ := ver_open hu
            have c0 : wr.cell? (ap.add (m * 3)) = some (.bool part[m].whole) := hcell 0 _ rfl
            have c1 := hcell 1 _ rfl
            have c2 := hcell 2 _ rfl
            rw [add_fld _ _ _ (by omega)] at c1 c2
            change wr.cell? ⟨(ap.add (m * 3)).block, (ap.add (m * 3)).off + 1, none⟩ = some v1 at c1
            change wr.cell? ⟨(ap.add (m * 3)).block, (ap.add (m * 3)).off + 2, none⟩ = some v2 at c2
            obtain ⟨A7, c7, rfl, hl7, hc7, _⟩ := Rp.sl_open hv1
            obtain ⟨A8, c8, rfl, hl8, hc8, _⟩ := Rp.sl_open hv2
            unfold maxLen at hc7 hc8
            have hps := ver_fits HFIT.out (HMEM.out _ (List.getElem_mem hmp))
            have HPS := Lib.hid hps
            have hal := HB.out.alloc HB.out.size (.cells #[.bool part[m].whole, .slice A7 part[m].bs.length c7, .slice A8 part[m].ps.length c8] 118)
            have hV1 := Rp.ext _ (Rp.sub _ hv1 (T := fun g => g < wr.heap.size) (fun g hg => by have := HB.out.size; omega)) ((Below.refl wr.heap.size wr).alloc (Nat.le_refl _) (.cells #[.bool part[m].whole, .slice A7 part[m].bs.length c7, .slice A8 part[m].ps.length c8] 118))
            have hV2 := Rp.ext _ (Rp.sub _ hv2 (T := fun g => g < wr.heap.size) (fun g hg => by have := HB.out.size; omega)) ((Below.refl wr.heap.size wr).alloc (Nat.le_refl _) (.cells #[.bool part[m].whole, .slice A7 part[m].bs.length c7, .slice A8 part[m].ps.length c8] 118))
            have hO := Rp.ext _ HO.out ((Below.refl wr.heap.size wr).alloc (Nat.le_refl _) (.cells #[.bool part[m].whole, .slice A7 part[m].bs.length c7, .slice A8 part[m].ps.length c8] 118))
            have HAL := Lib.hid hal
            have HV1 := Lib.hid hV1
            have HV2 := Lib.hid hV2
            have HO1 := Lib.hid hO
            have F1 := Lib.hid (@rsGo_form out part m hmp)
            have F2 := Lib.hid (@rsGo_large out part m hmp)
            have F3 := Lib.hid (@rsGo_whole out part m hmp)
            have F4 := Lib.hid (@rsGo_fault out part m hmp)
            have F5 := Lib.hid (@rsGo_next out part m hmp)
            have HPB : Hid (∀ f w', rsGo out (part.drop m) = ([], f) → Below w.heap.size w w' → RestPost l n w (.returned (.tuple #[.slice none 0 0, .int .i64 f])) w') := fun f w' h1 h2 => restPost_bad (by rw [← HG.out]; exact h1) h2
            clear hcell hu hv1 hv2 hps hal hV1 hV2 hO
            generalize hver : part[m] = ver at *
            obtain ⟨whole, bs, ps⟩ := ver
            clear hver
            simp only [] at c0 hl7 hl8
            cases whole with
            | true =>
              by_cases hp : ps = []
              · subst hp
                by_cases hlg : 3000 < bs.length
                · have HP := Lib.hid (HPB.out 2 _ (F2.out rfl rfl hlg) HAL.out)
                  go_wp2
                  go_ret2
                  exact HP.out
                · have HG2 := Lib.hid ((F3.out rfl rfl hlg).symm.trans HG.out)
                  go_wp2_with fail
                  refine (clone_any _ bs _ HV1.out (by omega)).mono ?_
                  intro e w7 hq
                  obtain ⟨vb, rfl, hv, hb7⟩ := clone_read hq
                  have HV := Lib.hid (Rp.sub _ hv (T := fun k => k < w7.heap.size) (fun k hk => hk.2))
                  have HB7 := Lib.hid (ext_trans HAL.out hb7)
                  clear hq hv hb7
                  go_wp2
                  go_roundw
                  case rel => exact ⟨m + 1, bs, by omega, by go_num, HV, HG2, HB7⟩
                  case measure => simp [intOf]; omega
              · have hpl : 0 < ps.length := List.length_pos_iff.2 hp
                have HP := Lib.hid (HPB.out 3 _ (F1.out (.inl ⟨rfl, hp⟩)) HAL.out)
                clear hp
                go_wp2
                go_ret2
                exact HP.out
            | false =>
              by_cases hp : bs = []
              · subst hp
                by_cases hrf : rbFault out ps = 0
                · have HG2 := Lib.hid ((F5.out rfl rfl hrf).symm.trans HG.out)
                  have HRF := Lib.hid hrf
                  clear hrf
                  go_wp2_with fail
                  refine (rebuilt_any _ _ out ps _ HO1.out HV2.out HPS.out).mono ?_
                  rintro e w7 ⟨vb, rfl, hv, hb7⟩
                  have HV := Lib.hid hv
                  have HB7 := Lib.hid (ext_trans HAL.out hb7)
                  rw [HRF.out]
                  clear hv hb7
                  go_wp2
                  go_roundw
                  case rel => exact ⟨m + 1, _, by omega, by go_num, HV, HG2, HB7⟩
                  case measure => simp [intOf]; omega
                · have HP := Lib.hid (fun w' hb => HPB.out _ w' (F4.out rfl rfl hrf) hb)
                  have hfb : (rbFault out ps != 0) = true := by rw [bne_iff_ne]; exact hrf
                  have HRF := Lib.hid hrf
                  clear hrf
                  go_wp2_with fail
                  refine (rebuilt_any _ _ out ps _ HO1.out HV2.out HPS.out).mono ?_
                  rintro e w7 ⟨vb, rfl, hv, hb7⟩
                  have HB7 := Lib.hid (ext_trans HAL.out hb7)
                  clear hv hb7
                  go_wp2
                  go_ret2
                  exact HP.out _ HB7.out
              · have hpl : 0 < bs.length := List.length_pos_iff.2 hp
                have HP := Lib.hid (HPB.out 3 _ (F1.out (.inr ⟨rfl, hp⟩)) HAL.out)
                clear hp
                go_wp2
                go_ret2
                exact HP.out
          · obtain rfl : m = M := by omega
            have hfin := HG.out
            rw [rsGo_end (by rw [HPL.out]; exact Nat.le_refl _)] at hfin
            have HP := Lib.hid (restPost_good hfin.symm HO.out HB.out)
            clear hfin
            go_wp2
            go_ret2
            exact HP.out
end Go.Proofs.Ytofahmdjhpbecaa
