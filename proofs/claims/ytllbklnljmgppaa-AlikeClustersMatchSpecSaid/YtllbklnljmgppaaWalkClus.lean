/-
  The law 'AlikeClustersMatchSpec' walked: it returns true.
-/
import Derived.Test.YtllbklnljmgppaaAClus
import Derived.Test.YtllbklnljmgppaaRefClus
import Derived.Test.YtllbklnljmgppaaSameN
import Derived.Test.YtllbklnljmgppaaOpen
namespace Go.Proofs.Ytllbklnljmgppaa
open Go.RowKit
set_option linter.unusedVariables false

def ratRp : Rp (Int × Int) := Rp.pair (Rp.int .i64) (Rp.int .i64)
theorem opens_rat : Opens Try.prog 37 ratRp := by
  refine opens_struct Try.underlying37 (by kernel_rfl) ?_
  refine opensF_cons (by rfl) (by kernel_rfl) (opens_int Try.underlying3) ?_
  exact opensF_one (by rfl) (by kernel_rfl) (opens_int Try.underlying3)
theorem opens_strsC : Opens Try.prog 29 (Rp.sl Rp.str) := opens_sl Try.underlying29 (by kernel_rfl) (by decide) (of_decide_eq_true (by kernel_rfl)) (opens_str Try.underlying9)
theorem rat_open {w : World} {S : Nat → Prop} {cs : Array Value} {p : Int × Int} (h : ratRp.ok w S cs.toList p) : cs = #[.int .i64 p.1, .int .i64 p.2] := by
  obtain ⟨c, d, e, ⟨h1, _⟩, ⟨h2, _⟩⟩ := h
  apply Array.toList_inj.1
  rw [e, h1, h2]; rfl
theorem strs_back (l : List ByteArray) : (l.map (·.data.toList)).map bstr = l := by
  rw [List.map_map]
  conv => rhs; rw [← List.map_id l]
  exact List.map_congr_left fun s _ => bstr_eq s
theorem clO_small {ls : List (List UInt8)} {n num den : Int} : ∀ g ∈ clO ls n num den, ∀ k ∈ g, k ≤ 1000 := by
  intro g hg k hk
  unfold clO at hg
  split at hg
  · rename_i h
    have hl := (clF_good h).2.1
    unfold grps at hg
    obtain ⟨i, _, rfl⟩ := List.mem_map.1 hg
    unfold memL at hk
    have h1 := List.mem_range.1 (List.mem_filter.1 hk).1
    unfold clG at h1
    rw [gR_len] at h1
    omega
  · cases hg
set_option maxRecDepth 100000 in
set_option maxHeartbeats 4000000 in
theorem clusLaw_any (v0 : Value) (l : List ByteArray) (v1 : Value) (n : Int) (cs2 : Array Value) (p : Int × Int) (w : World) (h0 : (Rp.sl Rp.str).ok w (· < w.heap.size) [v0] l) (f0 : (Rp.sl Rp.str).fits l)
    (h1 : (Rp.int .i64).ok w (· < w.heap.size) [v1] n) (f1 : (Rp.int .i64).fits n) (h2 : ratRp.ok w (· < w.heap.size) cs2.toList p) (f2 : ratRp.fits p) :
    Calls Try.prog 9 #[v0, v1, .agg cs2] w fun e w' => e = .returned (.bool true) ∧ Below w.heap.size w w' := by
  obtain rfl := rat_open h2
  obtain ⟨num, den⟩ := p
  obtain ⟨e1, z1⟩ := h1
  injection e1 with e1
  subst e1
  obtain ⟨ls, rfl⟩ : ∃ ls : List (List UInt8), l = ls.map bstr := ⟨_, (strs_back l).symm⟩
  clear f0 f1 f2 z1 h2
  have HK0 : Hid (Blk (w.alloc (.cells #[.int .i64 num, .int .i64 den] 37)) w.heap.size 37 [.int .i64 num, .int .i64 den]) := Lib.hid (Blk.new w _ _)
  have hal : Below w.heap.size w (w.alloc (.cells #[.int .i64 num, .int .i64 den] 37)) := (Below.refl _ _).alloc (Nat.le_refl _) _
  have HA := Lib.hid hal
  have H0 := Lib.hid (Rp.ext _ h0 hal)
  clear hal h0
  have c0 : _ = some (Value.int .i64 num) := HK0.out.cell 0
  have c1 : _ = some (Value.int .i64 den) := HK0.out.cell 1
  go_enter Try.func9, Try.ntmps9
  go_wp2_with fail
  clear c0 c1
  generalize w.alloc (.cells #[.int .i64 num, .int .i64 den] 37) = w0 at *
  refine (clus_any v0 ls n num den w0 H0.out).mono ?_
  rintro e w1 ⟨v, rfl, hn, hb⟩
  have HN1 := Lib.hid hn
  have HB1 := Lib.hid (below_trans2 HA.out hb HA.out.size)
  have HK1 := Lib.hid (HK0.out.same (same_below hb) HK0.out.lt)
  have H1 := Lib.hid (Rp.ext _ H0.out hb)
  clear hn hb HA HK0 H0
  have c0 : _ = some (Value.int .i64 num) := HK1.out.cell 0
  have c1 : _ = some (Value.int .i64 den) := HK1.out.cell 1
  go_wp2_with fail
  refine (refClus_any v0 ls n num den w1 H1.out).mono ?_
  rintro e w2 ⟨u, rfl, hn, hb⟩
  have HR1 := Lib.hid (nat_read (HN1.out.below hb) clO_small)
  have HR2 := Lib.hid (nat_read hn clO_small)
  have HB2 := Lib.hid (below_trans2 HB1.out hb HB1.out.size)
  clear hn hb HB1 HN1 H1 HK1 c0 c1
  obtain ⟨f, hf⟩ : ∃ f, clF ls n num den = f := ⟨_, rfl⟩
  rw [hf]
  clear hf
  have hff : (f == f) = true := by simp
  go_wp2_with fail
  refine (sameNum_any _ _ _ _ w2 _ _ HR1.out HR2.out).mono ?_
  rintro e w3 ⟨rfl, q, rfl⟩
  rw [decide_eq_true rfl]
  have HB3 := Lib.hid (below_drewN HB2.out q)
  clear HB2 HR1 HR2
  generalize w2.drewN q = w3 at *
  go_wp2_with fail
  refine (awake_any _).mono ?_
  rintro e w4 ⟨rfl, hb4⟩
  have HB4 := Lib.hid (below_trans2 HB3.out hb4 HB3.out.size)
  clear hb4
  go_wp2
  go_ret
  exact ⟨rfl, HB4.out⟩
end Go.Proofs.Ytllbklnljmgppaa
