/-
  The law 'AlikeSignaturesMatchSpec' walked: it returns true.
-/
import Derived.Test.YtllbklnljmgppaaGuess
import Derived.Test.YtllbklnljmgppaaSig
import Derived.Test.YtllbklnljmgppaaRefSig
import Derived.Test.YtllbklnljmgppaaEq
namespace Go.Proofs.Ytllbklnljmgppaa
open Go.RowKit
set_option linter.unusedVariables false

set_option maxRecDepth 100000 in
set_option maxHeartbeats 4000000 in
theorem signLaw_any (v0 : Value) (x : Int) (v1 : Value) (i : Int) (v2 : Value) (s2 : ByteArray) (v3 : Value) (s3 : ByteArray) (v4 : Value) (n : Int) (v5 : Value) (k : Int) (v6 : Value) (m : Int) (w : World)
    (h0 : (Rp.int .u64).ok w (· < w.heap.size) [v0] x) (f0 : (Rp.int .u64).fits x) (h1 : (Rp.int .i64).ok w (· < w.heap.size) [v1] i) (f1 : (Rp.int .i64).fits i)
    (h2 : Rp.str.ok w (· < w.heap.size) [v2] s2) (f2 : Rp.str.fits s2) (h3 : Rp.str.ok w (· < w.heap.size) [v3] s3) (f3 : Rp.str.fits s3)
    (h4 : (Rp.int .i64).ok w (· < w.heap.size) [v4] n) (f4 : (Rp.int .i64).fits n) (h5 : (Rp.int .i64).ok w (· < w.heap.size) [v5] k) (f5 : (Rp.int .i64).fits k) (h6 : (Rp.int .i64).ok w (· < w.heap.size) [v6] m) (f6 : (Rp.int .i64).fits m) :
    Calls Try.prog 6 #[v0, v1, v2, v3, v4, v5, v6] w fun e w' => e = .returned (.bool true) ∧ Below w.heap.size w w' := by
  obtain ⟨e0, z0⟩ := h0
  injection e0 with e0
  subst e0
  obtain ⟨e1, z1⟩ := h1
  injection e1 with e1
  subst e1
  obtain ⟨e2, z2⟩ := h2
  injection e2 with e2
  subst e2
  obtain ⟨e3, z3⟩ := h3
  injection e3 with e3
  subst e3
  obtain ⟨e4, z4⟩ := h4
  injection e4 with e4
  subst e4
  obtain ⟨e5, z5⟩ := h5
  injection e5 with e5
  subst e5
  obtain ⟨e6, z6⟩ := h6
  injection e6 with e6
  subst e6
  obtain ⟨a, rfl⟩ : ∃ a, s2 = bstr a := ⟨_, (bstr_eq s2).symm⟩
  obtain ⟨b, rfl⟩ : ∃ b, s3 = bstr b := ⟨_, (bstr_eq s3).symm⟩
  rw [bstr_size] at z2 z3
  have hx : 0 ≤ x ∧ x ≤ 18446744073709551615 := by simp [Lit.wf, IntKind.min, IntKind.max, IntKind.signed, IntKind.bits] at z0; omega
  obtain ⟨hx0, hx1⟩ := hx
  clear f0 f1 f2 f3 f4 f5 f6 z0 z1 z4 z5 z6
  obtain ⟨X, hX⟩ : ∃ X, mdX x i = X := ⟨_, rfl⟩
  obtain ⟨F, hF⟩ : ∃ F, mdF i = F := ⟨_, rfl⟩
  have HXF := Lib.hid (And.intro hX hF)
  clear hX hF
  have hX1 : (X != X) = false := by simp
  have hF1 : (F != F) = false := by simp
  go_enter Try.func6, Try.ntmps6
  go_wp2_with fail
  refine (mixedT_any x i w hx0 hx1).mono ?_
  rintro e w1 ⟨rfl, rfl⟩
  rw [HXF.out.1, HXF.out.2]
  go_wp2_with fail
  refine (refMixedT_any x i w hx0 hx1).mono ?_
  rintro e w1 ⟨rfl, rfl⟩
  rw [HXF.out.1, HXF.out.2]
  go_wp2_with fail
  refine (sig_any a n k w z2).mono ?_
  rintro e w1 ⟨y, rfl, hy, hb1⟩
  have HY := Lib.hid hy
  have HB1 := Lib.hid hb1
  clear hy hb1 hX1 hF1
  go_wp2_with fail
  refine (refSig_any a n k w1 z2).mono ?_
  rintro e w2 ⟨u, rfl, hu, hb2⟩
  have HY2 := Lib.hid (sgO_read (own_belowU HY.out hb2))
  have HU := Lib.hid (sgO_read hu)
  have HB2 := Lib.hid (ext_trans HB1.out hb2)
  clear hu hb2 HY HB1
  obtain ⟨f, hf⟩ : ∃ f, sgF a n k = f := ⟨_, rfl⟩
  rw [hf]
  clear hf
  have hff : (f != f) = false := by simp
  go_wp2_with fail
  refine (eqU64_any _ _ _ _ w2 _ _ HY2.out HU.out).mono ?_
  rintro e w3 ⟨rfl, q3, rfl⟩
  rw [decide_eq_true rfl]
  have HB3 := Lib.hid (below_drewN HB2.out q3)
  have HY3 : Hid ((Rp.sl (Rp.int .u64)).ok (w2.drewN q3) (· < (w2.drewN q3).heap.size) [y] (sgO a n k)) := Lib.hid (Rp.drewN _ HY2.out q3)
  clear HY2 HU HB2
  generalize w2.drewN q3 = w3 at *
  go_wp2_with fail
  refine (refSig_any b n m w3 z3).mono ?_
  rintro e w4 ⟨c, rfl, hc, hb4⟩
  have HY4 := Lib.hid ((Rp.sl (Rp.int .u64)).keep HY3.out (S' := (· < w4.heap.size)) (same_below hb4) (fun g hg => Nat.lt_of_lt_of_le hg hb4.size))
  have HC := Lib.hid (sgO_read hc)
  have HB4 := Lib.hid (ext_trans HB3.out hb4)
  clear hc hb4 HY3 HB3
  obtain ⟨l1, hl1⟩ : ∃ l, sgO a n k = l := ⟨_, rfl⟩
  obtain ⟨l2, hl2⟩ : ∃ l, sgO b n m = l := ⟨_, rfl⟩
  rw [hl1] at HY4
  rw [hl2] at HC
  clear hl1 hl2
  obtain ⟨p, q, hpq⟩ : ∃ p q : Nat, guQ l1 l2 = (p, q) := ⟨_, _, rfl⟩
  obtain ⟨g, hg⟩ : ∃ g, guF l1 l2 = g := ⟨_, rfl⟩
  have HPQ := Lib.hid (And.intro hpq hg)
  clear hpq hg
  have hgg : (g == g) = true := by simp
  go_wp2_with fail
  refine (guess_any _ _ l1 l2 w4 HY4.out HC.out).mono ?_
  rintro e w5 ⟨rfl, hb5⟩
  rw [HPQ.out.1, HPQ.out.2, show pairV (p, q) = .agg #[.int .i64 (p : Nat), .int .i64 (q : Nat)] from rfl]
  have hba := hb5.alloc hb5.size (.cells #[.int .i64 p, .int .i64 q] 37)
  have hk := Blk.new w5 37 [.int .i64 (p : Nat), .int .i64 (q : Nat)]
  have HY6 := Lib.hid ((Rp.sl (Rp.int .u64)).keep HY4.out (S' := (· < (w5.alloc (.cells #[.int .i64 p, .int .i64 q] 37)).heap.size)) (same_below hba) (fun g hg => Nat.lt_of_lt_of_le hg hba.size))
  have HC6 := Lib.hid ((Rp.sl (Rp.int .u64)).keep HC.out (S' := (· < (w5.alloc (.cells #[.int .i64 p, .int .i64 q] 37)).heap.size)) (same_below hba) (fun g hg => Nat.lt_of_lt_of_le hg hba.size))
  have HB6 := Lib.hid (ext_trans HB4.out hba)
  have HK := Lib.hid hk
  clear hba hk hb5 HY4 HC HB4
  go_wp2_with fail
  refine (refGuess_any _ _ l1 l2 _ HY6.out HC6.out).mono ?_
  rintro e w7 ⟨rfl, hb7⟩
  rw [HPQ.out.1, HPQ.out.2, show pairV (p, q) = .agg #[.int .i64 (p : Nat), .int .i64 (q : Nat)] from rfl]
  have hk7 := (HK.out.same (same_below hb7) HK.out.lt).allocR (.cells #[.int .i64 p, .int .i64 q] 37)
  have HB7 := Lib.hid (ext_trans HB6.out hb7)
  have HB8 := Lib.hid (HB7.out.alloc HB7.out.size (.cells #[.int .i64 p, .int .i64 q] 37))
  have c0 : _ = some (Value.int .i64 (p : Nat)) := hk7.cell 0
  have c1 : _ = some (Value.int .i64 (q : Nat)) := hk7.cell 1
  have hp : ((p : Int) == (p : Int)) = true := by simp
  have hq : ((q : Int) == (q : Int)) = true := by simp
  clear hk7 hb7 HB6 HB7 HK HY6 HC6
  go_wp2_with fail
  refine (awake_any _).mono ?_
  rintro e w10 ⟨rfl, hb10⟩
  have HB10 := Lib.hid (ext_trans HB8.out hb10)
  clear hb10
  go_wp2
  go_ret
  exact ⟨rfl, HB10.out⟩
end Go.Proofs.Ytllbklnljmgppaa
