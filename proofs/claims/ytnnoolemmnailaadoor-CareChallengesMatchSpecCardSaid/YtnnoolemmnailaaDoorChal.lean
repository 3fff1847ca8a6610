/-
  'Challenge' of both packages.
-/
import Derived.Test.YtnnoolemmnailaaDoorProg
import Derived.Test.YtnnoolemmnailaaDoorRow
import Derived.Test.YtnnoolemmnailaaDoorConcatC
import Derived.Lib.SlBytesConst
namespace Go.Proofs.YtnnoolemmnailaaDoor
open Go.RowKit
set_option linter.unusedVariables false
set_option linter.unusedSimpArgs false

def chalFault (nonce b : List UInt8) : Int := if isRowB nonce 100 = false then 3 else if 100000 < b.length then 2 else 0
def chalStr (nonce b : List UInt8) : List UInt8 := if chalFault nonce b = 0 then digL (nonce ++ 10 :: b) else []
def ChalPost (nonce b : List UInt8) (w : World) (e : Ending) (w' : World) : Prop := e = .returned (.tuple #[.string (bstr (chalStr nonce b)), .int .i64 (chalFault nonce b)]) ∧ Below w.heap.size w w'
theorem ChalPost.bad {nonce b : List UInt8} {f : Int} {w w' : World} (h : chalFault nonce b = f) (h0 : f ≠ 0) (hb : Below w.heap.size w w') : ChalPost nonce b w (.returned (.tuple #[.string ⟨#[]⟩, .int .i64 f])) w' := by
  refine ⟨?_, hb⟩
  rw [chalStr, if_neg (by rw [h]; exact h0), h]; rfl
theorem ChalPost.good {nonce b : List UInt8} {w w' : World} (h : chalFault nonce b = 0) (hb : Below w.heap.size w w') : ChalPost nonce b w (.returned (.tuple #[.string (bstr (digL (nonce ++ 10 :: b))), .int .i64 0])) w' := by
  refine ⟨?_, hb⟩
  rw [chalStr, if_pos h, h]
/-- A literal row of one-cell elements. -/
theorem lit_row {α : Type} {R : Rp α} (hR : R.sz = 1) (w : World) (e : TypeId) (fz : Nat × Nat) (us : List Value) (l : List α) (hl : us.length = l.length) (h2 : l.length ≤ 1000) (h : ∀ k (hk : k < l.length), R.ok w (· < w.heap.size) [us[k]'(by omega)] l[k]) :
    (Rp.sl R).ok (w.alloc (.cells us.toArray e fz)) (· < (w.alloc (.cells us.toArray e fz)).heap.size) [.slice (some ⟨w.heap.size, 0, none⟩) l.length l.length] l := by
  refine ⟨_, _, rfl, Nat.le_refl _, by unfold maxLen; omega, by simp, fun k hk => ?_⟩
  refine ⟨_, [us[k]'(by omega)], rfl, by simp, Rp.ext _ (h k hk) ((Below.refl w.heap.size w).alloc (Nat.le_refl _) _), fun j u hu => ?_⟩
  match j, hu with
  | 0, hu =>
    have hadd : (⟨w.heap.size, 0, none⟩ : Addr).add (k * R.sz + 0) = ⟨w.heap.size, k, none⟩ := by unfold Addr.add; simp only [hR, Nat.mul_one, Nat.add_zero]; split <;> simp_all
    rw [hadd]
    refine (cell_of_row _ _ k _ _ _ (heap_alloc_new w _)).trans ?_
    rw [← hu]; simp [show k < us.length by omega]
theorem bys_read {w : World} {B n : Nat} {v : Value} {e : TypeId} {bs : List UInt8} (h : w.ownsRow B e 1 v n (bys bs)) : (Rp.sl Rp.u8).ok w (· < w.heap.size) [v] bs := by
  have hn : n = bs.length := by have := h.1; simpa [bys] using this.symm
  subst hn
  exact Rp.of_own1 (R := Rp.u8) (f := fun b => .int .u8 b.toNat) rfl h (fun g hg => (h.lt g hg).2) (fun a ha => rfl)
set_option maxRecDepth 100000 in
set_option maxHeartbeats 1000000 in
theorem challenge_any (nonce : List UInt8) (v : Value) (b : List UInt8) (w : World) (hn : nonce.length ≤ 9223372036854775807) (h : (Rp.sl Rp.u8).ok w (· < w.heap.size) [v] b) :
    Calls Tryd.prog 27 #[.string (bstr nonce), v] w (ChalPost nonce b w) := by
  obtain ⟨A, c, rfl, hl, hc, _⟩ := Rp.sl_open h
  unfold maxLen at hc
  have H := Lib.hid h
  clear h
  have hc1 := isNonce_any nonce w hn
  go_enter Tryd.func27, Tryd.ntmps27
  go_wp2_with fail
  refine hc1.mono ?_
  rintro e w1 ⟨rfl, rfl⟩
  clear hc1
  cases hnn : isRowB nonce 100 with
  | false =>
    have HP := Lib.hid (ChalPost.bad (w := w) (b := b) (f := 3) (by rw [chalFault, if_pos hnn]) (by decide) (Below.refl _ _))
    clear hnn
    go_wp2_with fail
    go_ret2
    exact HP.out
  | true =>
  have hlen := isRowB_len hnn
  by_cases hbig : 100000 < b.length
  · have HP := Lib.hid (ChalPost.bad (w := w) (b := b) (nonce := nonce) (f := 2) (by rw [chalFault, if_neg (by rw [hnn]; decide), if_pos hbig]) (by decide) (Below.refl _ _))
    have hbig' : (100000 : Int) < (b.length : Int) := by omega
    clear hbig hnn
    go_wp2_with fail
    go_ret2
    exact HP.out
  have hbig' : ¬ (100000 : Int) < (b.length : Int) := by omega
  have HF : Hid (chalFault nonce b = 0) := Lib.hid (by rw [chalFault, if_neg (by rw [hnn]; decide), if_neg hbig])
  obtain ⟨c3, w3, hcv, hr3, hb3⟩ := conv_str (P := Tryd.prog) w 9 46 5 nonce Tryd.underlying9 Tryd.underlying46 Tryd.underlying5 (by unfold maxLen; omega)
  have hb0 := hb3 _ w (Nat.le_refl _) (Below.refl _ _)
  have hlt3 : w.heap.size < w3.heap.size := by
    obtain ⟨ad, u, e, _, hu, hcell⟩ := Rp.sl_at1 rfl hr3 (k := 0) (by omega)
    injection e with e
    have := World.block_lt_of_cell? w3 _ hcell
    rw [add_block, ← e] at this
    exact this
  have g0 : (Rp.sl Rp.u8).ok w3 (· < w3.heap.size) [.slice (some ⟨w.heap.size, 0, none⟩) nonce.length c3] nonce := by
    obtain ⟨A', c', e0, hl', hm', h0', h3'⟩ := hr3
    refine ⟨A', c', e0, hl', hm', h0', fun k hk => ?_⟩
    obtain ⟨ad, us, e, _, hu, hcell⟩ := h3' k hk
    refine ⟨ad, us, e, ?_, hu, hcell⟩
    injection e0 with e0; injection e0 with e1
    rw [← e1] at e
    injection e with e
    rw [← e]; exact hlt3
  have g1 : (Rp.sl Rp.u8).ok (w3.alloc (.cells #[.int .u8 10] 5 (1, 2))) (· < (w3.alloc (.cells #[.int .u8 10] 5 (1, 2))).heap.size) [.slice (some ⟨w3.heap.size, 0, none⟩) 1 1] [10] :=
    lit_row (R := Rp.u8) rfl w3 5 (1, 2) [.int .u8 10] [10] rfl (by simp) (fun k hk => by
      obtain rfl : k = 0 := by simpa using hk
      rfl)
  have b4 := (Below.refl w3.heap.size w3).alloc (Nat.le_refl _) (.cells #[.int .u8 10] 5 (1, 2))
  have g2 := Rp.ext _ (Rp.ext _ H.out hb0) b4
  have hlit := lit_row (R := Rp.sl Rp.u8) rfl (w3.alloc (.cells #[.int .u8 10] 5 (1, 2))) 46 (0, 0) [.slice (some ⟨w.heap.size, 0, none⟩) nonce.length c3, .slice (some ⟨w3.heap.size, 0, none⟩) 1 1, .slice A b.length c] [nonce, [10], b] rfl (by simp) (fun k hk => by
    have : k = 0 ∨ k = 1 ∨ k = 2 := by simp at hk; omega
    rcases this with rfl | rfl | rfl
    · exact Rp.ext _ g0 b4
    · exact g1
    · exact g2)
  have HB5 := Lib.hid ((hb0.alloc hb0.size (.cells #[.int .u8 10] 5 (1, 2))).alloc (by have := hb0.size; simp; omega) (.cells #[.slice (some ⟨w.heap.size, 0, none⟩) nonce.length c3, .slice (some ⟨w3.heap.size, 0, none⟩) 1 1, .slice A b.length c] 46))
  have hlit' : (Rp.sl (Rp.sl Rp.u8)).ok ((w3.alloc (.cells #[.int .u8 10] 5 (1, 2))).alloc (.cells #[.slice (some ⟨w.heap.size, 0, none⟩) nonce.length c3, .slice (some ⟨w3.heap.size, 0, none⟩) 1 1, .slice A b.length c] 46)) (· < ((w3.alloc (.cells #[.int .u8 10] 5 (1, 2))).alloc (.cells #[.slice (some ⟨w.heap.size, 0, none⟩) nonce.length c3, .slice (some ⟨w3.heap.size, 0, none⟩) 1 1, .slice A b.length c] 46)).heap.size) [.slice (some ⟨w3.heap.size + 1, 0, none⟩) 3 3] [nonce, [10], b] := by
    rw [← World.size_alloc w3 (.cells #[.int .u8 10] 5 (1, 2))]
    exact hlit
  have HL := Lib.hid hlit'
  have hflat : ([nonce, [10], b] : List (List UInt8)).flatten = nonce ++ 10 :: b := by simp
  have hm : ([nonce, [10], b] : List (List UInt8)).flatten.length ≤ 20000000 := by rw [hflat]; simp; omega
  have HFL := Lib.hid hflat
  have HM := Lib.hid hm
  have hid := Lib.run_convert_bytes_const (P := Tryd.prog) w3 46 5 #[.int .u8 10] 1 1 Tryd.underlying46 Tryd.underlying5
  clear hlit hlit' hr3 g0 g1 g2 b4 hb3 hb0 hflat hm hnn hbig H hlt3
  go_wp2_with fail
  with_reducible refine (concat_any _ _ _ HL.out HM.out).mono ?_
  rintro e w6 ⟨vc, rfl, hoc, hb6⟩
  have HR6 := Lib.hid (bys_read hoc)
  have HB6 := Lib.hid (ext_trans HB5.out hb6)
  clear hoc hb6 HB5 HL
  go_wp2_with fail
  refine (digest_any _ _ _ _ HR6.out).mono ?_
  rintro e w7 ⟨rfl, hb7⟩
  have HB7 := Lib.hid (ext_trans HB6.out hb7)
  clear hb7
  have HP := ChalPost.good HF.out HB7.out
  rw [digL] at HP
  have HPP := Lib.hid HP
  clear HP
  go_wp2_with fail
  go_ret2
  exact HPP.out
set_option maxRecDepth 100000 in
set_option maxHeartbeats 1000000 in
theorem refChallenge_any (nonce : List UInt8) (v : Value) (b : List UInt8) (w : World) (hn : nonce.length ≤ 9223372036854775807) (h : (Rp.sl Rp.u8).ok w (· < w.heap.size) [v] b) :
    Calls Tryd.prog 28 #[.string (bstr nonce), v] w (ChalPost nonce b w) := by
  obtain ⟨A, c, rfl, hl, hc, _⟩ := Rp.sl_open h
  unfold maxLen at hc
  have H := Lib.hid h
  clear h
  have hc1 := refIsRow_any nonce 100 w hn
  go_enter Tryd.func28, Tryd.ntmps28
  go_wp2_with fail
  refine hc1.mono ?_
  rintro e w1 ⟨rfl, rfl⟩
  clear hc1
  cases hnn : isRowB nonce 100 with
  | false =>
    have HP := Lib.hid (ChalPost.bad (w := w) (b := b) (f := 3) (by rw [chalFault, if_pos hnn]) (by decide) (Below.refl _ _))
    clear hnn
    go_wp2_with fail
    go_ret2
    exact HP.out
  | true =>
  have hlen := isRowB_len hnn
  by_cases hbig : 100000 < b.length
  · have HP := Lib.hid (ChalPost.bad (w := w) (b := b) (nonce := nonce) (f := 2) (by rw [chalFault, if_neg (by rw [hnn]; decide), if_pos hbig]) (by decide) (Below.refl _ _))
    have hbig' : (100000 : Int) < (b.length : Int) := by omega
    clear hbig hnn
    go_wp2_with fail
    go_ret2
    exact HP.out
  have hbig' : ¬ (100000 : Int) < (b.length : Int) := by omega
  have HF : Hid (chalFault nonce b = 0) := Lib.hid (by rw [chalFault, if_neg (by rw [hnn]; decide), if_neg hbig])
  have hcv := conv_bytes (P := Tryd.prog) 46 5 9 Tryd.underlying46 Tryd.underlying5 Tryd.underlying9 H.out
  have hadd : bstr nonce ++ ⟨#[10]⟩ ++ bstr b = bstr (nonce ++ 10 :: b) := by
    apply ByteArray.ext
    simp [bstr, ByteArray.data_append]
  have HADD := Lib.hid hadd
  have hs1 : (bstr nonce).size = nonce.length := rfl
  have hs2 : (bstr b).size = b.length := rfl
  have hs3 : (bstr nonce ++ ⟨#[10]⟩).size = nonce.length + 1 := by
    rw [ByteArray.size_append]; rfl
  have hl2 : (nonce ++ 10 :: b).length ≤ 140737488355328 := by simp; omega
  clear hadd hnn hbig
  go_wp2_with fail
  rw [HADD.out]
  refine (rdigest_any _ _ hl2).mono ?_
  rintro e w7 ⟨rfl, hb7⟩
  have HPP := Lib.hid (ChalPost.good HF.out hb7)
  clear hb7
  go_wp2_with fail
  go_ret2
  exact HPP.out
end Go.Proofs.YtnnoolemmnailaaDoor
