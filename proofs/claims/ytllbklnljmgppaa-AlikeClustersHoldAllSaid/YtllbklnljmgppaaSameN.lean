/-
  SameNumbers of the reference walked; how a row of groups reads.
-/
import Derived.Test.YtllbklnljmgppaaClusF
import Derived.Test.YtllbklnljmgppaaEq
import Derived.Deep.QuietTactic
import Derived.BigQuiet
namespace Go.Proofs.Ytllbklnljmgppaa
open Go.RowKit
set_option linter.unusedVariables false
set_option linter.unusedSimpArgs false

def toI (g : List Nat) : List Int := g.map fun k : Nat => (k : Int)
theorem toI_inj : ∀ {a b : List Nat}, toI a = toI b → a = b
  | [], [], _ => rfl
  | [], y :: b, h => by simp [toI] at h
  | x :: a, [], h => by simp [toI] at h
  | x :: a, y :: b, h => by
    simp only [toI, List.map_cons, List.cons.injEq] at h
    rw [toI_inj (a := a) (b := b) h.2, show x = y by omega]
def natRp : Rp (List Nat) := (Rp.sl (Rp.int .i64)).via toI
theorem nat_read {w : World} {B : Nat} {v : Value} {l : List (List Nat)} (h : Nest1 (fun g : List Nat => g.map natV) 47 3 B w v l) (hs : ∀ g ∈ l, ∀ k ∈ g, k ≤ 1000) : (Rp.sl natRp).ok w (· < w.heap.size) [v] l := by
  refine Nest.rp (R := natRp) (fun _ => rfl) rfl h (fun g _ hg => hg) (fun a ha u hu => ?_)
  show (Rp.sl (Rp.int .i64)).ok w (· < w.heap.size) [u] (toI a)
  have e : a.map natV = (toI a).map (.int .i64) := by unfold toI; rw [List.map_map]; rfl
  have hl : (a.map natV).length = (toI a).length := by unfold toI; rw [List.length_map, List.length_map]
  simp only [hl] at hu
  rw [e] at hu
  exact Rp.int_own (k := .i64) (n := (toI a).length) (B := B) (e := 3) hu (fun x hx => by
    unfold toI at hx
    obtain ⟨k, hk, rfl⟩ := List.mem_map.1 hx
    have := hs a ha k hk
    exact WalkArith.wf_i64 (by omega)) (fun g hg => (hu.lt g hg).2)
theorem take_eqN {α : Type} {a b : List α} {k : Nat} (h : a.take k = b.take k) (ha : k < a.length) (hb : k < b.length) (he : a[k] = b[k]) : a.take (k + 1) = b.take (k + 1) := by
  rw [List.take_succ_eq_append_getElem ha, List.take_succ_eq_append_getElem hb, h, he]
set_option maxRecDepth 100000 in
set_option maxHeartbeats 4000000 in
theorem sameNum_any (v1 v2 : Value) (a b : List (List Nat)) (w : World) (S T : Nat → Prop) (h1 : (Rp.sl natRp).ok w S [v1] a) (h2 : (Rp.sl natRp).ok w T [v2] b) :
    Calls Try.prog 29 #[v1, v2] w fun e w' => e = .returned (.bool (decide (a = b))) ∧ ∃ q, w' = w.drewN q := by
  obtain ⟨A, c, rfl, hl1, hc1, _⟩ := Rp.sl_open h1
  obtain ⟨B, d, rfl, hl2, hc2, _⟩ := Rp.sl_open h2
  unfold maxLen at hc1 hc2
  have H1 := Lib.hid h1
  have H2 := Lib.hid h2
  clear h1 h2
  by_cases hlen : a.length = b.length
  case neg =>
    have hab : ((a.length : Int) != (b.length : Int)) = true := by rw [bne_iff_ne]; omega
    have HF : Hid (decide (a = b) = false) := Lib.hid (decide_eq_false (fun e => hlen (by rw [e])))
    go_enter Try.func29, Try.ntmps29
    go_wp2_with fail
    go_ret
    exact ⟨by rw [HF.out]; rfl, 0, rfl⟩
  have hab : ((a.length : Int) != (b.length : Int)) = false := by simp [hlen]
  have HL := Lib.hid hlen
  clear hlen
  go_enter Try.func29, Try.ntmps29
  go_wp2_with fail
  go_loopw [13] (fun i wr => ∃ k : Nat, k ≤ a.length ∧ i = .int .i64 k ∧ Hid (a.take k = b.take k) ∧ Hid (Drawn w wr)) (fun i _ => a.length - (intOf i).toNat)
  case atStart => exact ⟨0, Nat.zero_le _, rfl, rfl, Drawn.refl w⟩
  case round =>
    obtain ⟨k, hk, rfl, HT, HW⟩ := hrel
    by_cases hlt : k < a.length
    · have hlb : k < b.length := by rw [← HL.out]; exact hlt
      obtain ⟨ad1, u1, rfl, _, hu1, hcell1⟩ := Rp.sl_at1 rfl (Rp.drawn _ H1.out HW.out) hlt
      obtain ⟨ad2, u2, rfl, _, hu2, hcell2⟩ := Rp.sl_at1 rfl (Rp.drawn _ H2.out HW.out) hlb
      obtain ⟨A3, c3, rfl, _⟩ := Rp.sl_open (show (Rp.sl (Rp.int .i64)).ok wr S [u1] (toI a[k]) from hu1)
      obtain ⟨A4, c4, rfl, _⟩ := Rp.sl_open (show (Rp.sl (Rp.int .i64)).ok wr T [u2] (toI b[k]) from hu2)
      have HV1 : Hid ((Rp.sl (Rp.int .i64)).ok wr S [.slice A3 (toI a[k]).length c3] (toI a[k])) := Lib.hid hu1
      have HV2 : Hid ((Rp.sl (Rp.int .i64)).ok wr T [.slice A4 (toI b[k]).length c4] (toI b[k])) := Lib.hid hu2
      clear hu1 hu2
      have i1 : (k : Int) < a.length := by omega
      have i2 : (k : Int) < b.length := by omega
      by_cases he : a[k] = b[k]
      · have HE : Hid (decide (toI a[k] = toI b[k]) = true) := Lib.hid (decide_eq_true (by rw [he]))
        have HT2 := Lib.hid (take_eqN HT.out hlt hlb he)
        clear he
        go_wp2_with fail
        go_quiet ((go_at_call 48; exact Calls.quiet_of (eqInt_any _ _ _ _ _ _ _ (Rp.drewN _ HV1.out _) (Rp.drewN _ HV2.out _))))
        rw [HE.out]
        go_wp2_with fail
        go_roundw
        case rel => exact ⟨k + 1, by omega, by go_num, HT2, HW.out.more _⟩
        case measure => simp [intOf]; omega
      · have HE : Hid (decide (toI a[k] = toI b[k]) = false) := Lib.hid (decide_eq_false (fun e => he (toI_inj e)))
        have HF : Hid (decide (a = b) = false) := Lib.hid (decide_eq_false (fun e => he (by simp only [e])))
        clear he
        go_wp2_with fail
        go_quiet ((go_at_call 48; exact Calls.quiet_of (eqInt_any _ _ _ _ _ _ _ (Rp.drewN _ HV1.out _) (Rp.drewN _ HV2.out _))))
        rw [HE.out]
        go_wp2_with fail
        go_ret
        obtain ⟨q, hq⟩ := HW.out.more nq
        exact ⟨by rw [HF.out]; rfl, q, hq⟩
    · have HF : Hid (decide (a = b) = true) := Lib.hid (decide_eq_true (by
        have h := HT.out
        have hl := HL.out
        rwa [List.take_of_length_le (by omega), List.take_of_length_le (by omega)] at h))
      go_wp2_with fail
      go_ret
      obtain ⟨q, hq⟩ := HW.out
      exact ⟨by rw [HF.out]; rfl, q, hq⟩
end Go.Proofs.Ytllbklnljmgppaa
