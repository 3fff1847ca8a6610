/-
  slices.Sorted(slices.Values(row)) at strings: increasing, with the same strings.
-/
import Derived.Test.YtdeeiifcjbmmiaaDoorProg
import Derived.Test.YtdeeiifcjbmmiaaDoorBase
import Derived.Test.YtdeeiifcjbmmiaaDoorSortS
import Derived.RangeFuncBox
import Derived.RangeFuncLeaves
import Derived.Shelf.Abstract
import Derived.WalkKit
import Derived.OwnWalkIn
import Derived.TacticsInMore
import Derived.LoopNIn
import Derived.LoopIn
import Derived.Maps.AppendAt
namespace Go.Proofs.YtdeeiifcjbmmiaaDoor
open Go.RowKit Go.Shelf
set_option linter.unusedVariables false
set_option linter.unusedSimpArgs false
attribute [local go_sem] Oper.semAt_some

set_option maxRecDepth 100000 in
set_option maxHeartbeats 400000 in
theorem values_any (p : Option Addr) (n c : Nat) (w : World) :
    Calls Tryd.prog 23 #[.slice p n c] w fun e w' => e = .returned (.func (.func 37) #[] #[.pointer (some ⟨w.heap.size, 0, none⟩)]) ∧ w' = w.alloc (.cells #[.slice p n c] 23) := by
  go_enter Tryd.func23, Tryd.ntmps23
  go_wp2_with fail
  go_ret
  exact ⟨rfl, rfl⟩
/-- The slice value sv holds the strings zs, in a block below n₀; or there are none. -/
def StrsAt (n₀ : Nat) (W : World) (sv : Value) (zs : List (List UInt8)) : Prop :=
  ∃ p cap, sv = .slice p zs.length cap ∧ ∀ j (h : j < zs.length), ∃ b off, p = some ⟨b, off, none⟩ ∧ b < n₀ ∧ W.cell? ⟨b, off + j, none⟩ = some (.string (bstr zs[j]))
theorem StrsAt.below {n₀ : Nat} {A B : World} (h : Below n₀ A B) {sv : Value} {zs : List (List UInt8)} : StrsAt n₀ A sv zs → StrsAt n₀ B sv zs
  | ⟨p, cap, e, hc⟩ => ⟨p, cap, e, fun j hj => by
    obtain ⟨b, off, e1, hb, hcl⟩ := hc j hj
    exact ⟨b, off, e1, hb, (h.cell (p := ⟨b, off + j, none⟩) hb).trans hcl⟩⟩
set_option maxRecDepth 100000 in
set_option maxHeartbeats 2000000 in
theorem values_stops (m B n₀ : Nat) (sv : Value) (zs : List (List UInt8)) (hz : zs.length ≤ 1000000) (w : World) (hB : B < w.heap.size) (hn₀ : n₀ ≤ w.heap.size) (hBn : B < n₀)
    (hc : w.cell? ⟨B, 0, none⟩ = some sv) (hI : StrsAt n₀ w sv zs) :
    SeqStopsK Fence.wide m Tryd.prog 37 #[.pointer (some ⟨B, 0, none⟩)] (fun x : List UInt8 => #[Value.string (bstr x)]) (Below n₀) (fun ys => ys = zs) (fun _ => True) zs.length w := fun l J Jx W hW hJ hJx hY h0 => by
  have HY := Lib.hid hY
  have q1 := (hW.cell (p := ⟨B, 0, none⟩) hB).trans hc
  have HI := Lib.hid (hI.below (hW.mono hn₀))
  clear hc hW hJ hY hI
  obtain ⟨p, cap, rfl, hcs⟩ := HI.out
  have HCS := Lib.hid hcs
  clear hcs HI
  refine callsIn_of_wp Tryd.func37 rfl trivial ?_ rfl
  simp only [Tryd.ntmps37, List.size_toArray, List.length_cons, List.length_nil, Nat.reduceAdd, Nat.reduceSub, Array.replicate_succ, Array.replicate_zero, List.push_toArray, List.append_toArray, List.nil_append, List.cons_append]
  gi_wp2
  gi_loopw [7] (fun i wr => ∃ (k : Nat), i = .int .i64 k ∧ k ≤ zs.length ∧ Hid (J (zs.take k) wr) ∧ Hid (Below n₀ W wr)) (fun i _ => zs.length - (intOf i).toNat)
  case atStart => exact ⟨0, rfl, Nat.zero_le _, h0, Below.refl _ _⟩
  case round =>
    obtain ⟨k, rfl, hk, HP, HK⟩ := hrel
    have r1 := (HK.out.cell (p := ⟨B, 0, none⟩) hBn).trans q1
    by_cases hlt : k < zs.length
    · obtain ⟨b, off, rfl, hb, hcl⟩ := HCS.out k hlt
      have r2 := (HK.out.cell (p := ⟨b, off + k, none⟩) hb).trans hcl
      have HT := Lib.hid (List.take_succ_eq_append_getElem hlt)
      obtain ⟨fn, tmps, assign, body, hy, hR⟩ := HY.out (zs.take k) zs[k] wr HP.out (by rw [List.length_take]; omega)
      generalize zs[k] = x at *
      have hm0 : (0 : Int) ≤ (k : Int) := by omega
      have hmL : (k : Int) < (zs.length : Int) := by omega
      gi_wp2
      refine ⟨fun h => (by cases h), hR.mono ?_⟩
      have HK3 := Lib.hid (fun (W3 : World) (h : Below n₀ wr W3) => HK.out.trans h)
      clear hR hy HK HY HP r1 r2
      rintro e W3 (⟨rfl, hJ3, hk3⟩ | ⟨rfl, hJx3⟩)
      · have HJ3 := Lib.hid hJ3
        have HK4 := Lib.hid (HK3.out W3 hk3)
        clear hJ3 hk3 HK3
        gi_wp2
        go_roundw
        case rel => exact ⟨k + 1, by go_num, by omega, by rw [HT.out]; exact HJ3, HK4⟩
        case measure => simp [intOf]; omega
      · have HX := Lib.hid hJx3
        clear hJx3
        gi_wp2
        refine bodyPost_ret (results_none rfl _ _ _) rfl ?_
        exact ⟨⟨_, rfl⟩, .inr ⟨_, trivial, HX.out⟩⟩
    · have HE : Hid (J zs wr) := Lib.hid (by
        have h := HP.out
        rwa [List.take_of_length_le (by omega)] at h)
      gi_wp2
      go_end0
      exact ⟨⟨_, rfl⟩, .inl ⟨_, rfl, HE.out⟩⟩
theorem strInfoV : (Tryd.prog.info? 9).map (fun i => (i.zero, i.size, i.bytes)) = some (some (.string (bstr [])), 1, 16) := by kernel_rfl
set_option maxRecDepth 100000 in
set_option maxHeartbeats 4000000 in
theorem appendSeq_any (B : Nat) (sv : Value) (zs : List (List UInt8)) (hz : zs.length ≤ 1000000) (w : World) (hB : B < w.heap.size) (hc : w.cell? ⟨B, 0, none⟩ = some sv) (hI : StrsAt w.heap.size w sv zs) :
    Calls Tryd.prog 47 #[.slice none 0 0, .func (.func 37) #[] #[.pointer (some ⟨B, 0, none⟩)]] w fun e w' => ∃ v, e = .returned v ∧ w'.ownsRow w.heap.size 9 1 v zs.length (zs.map strV) ∧ Below w.heap.size w w' := by
  refine (callsIn_wide (n := 3)).1 ?_
  obtain ⟨i0, hi, hz0, hz1, hz2⟩ := info_parts strInfoV
  refine callsIn_of_wp_marks Tryd.func47 rfl trivial ?_ rfl
  simp only [Tryd.ntmps47, List.size_toArray, List.length_cons, List.length_nil, Nat.reduceAdd, Nat.reduceSub, Array.replicate_succ, Array.replicate_zero, List.push_toArray, List.append_toArray, List.nil_append, List.cons_append]
  gi_wp2
  have bO := Boxed.new w 23 (.slice none 0 0)
  have hB0 : Below w.heap.size w (w.alloc (.cells #[.slice none 0 0] 23)) := (Below.refl _ w).alloc (Nat.le_refl _) _
  refine wpIn_rangeFunc_ownG rfl (by decide) (gf := 37) (lb := #[.pointer (some ⟨B, 0, none⟩)]) rfl trivial (enters_of Tryd.func37 (by kernel_rfl) rfl)
    (values_stops 2 B w.heap.size sv zs hz _ (by simp; omega) (by simp) hB ((hB0.cell (p := ⟨B, 0, none⟩) hB).trans hc) (hI.below hB0)) belowK_t (belowK_b (by simp)) (Below.refl _ _) (fun _ => rfl)
    (fun pre W => (∃ v, Boxed W w.heap.size 23 v ∧ W.ownsRow w.heap.size 9 1 v pre.length (pre.map strV) ∧ True) ∧ Below w.heap.size w W)
    (fun _ _ _ => False)
    (OwnFrom.and (Own.from (holdsRow_own w.heap.size w.heap.size 23 9 1 (fun pre : List (List UInt8) => pre.length) (fun pre => pre.map strV) (fun _ _ => True)) _) (ownFrom_below (Nat.le_refl _) (by simp)))
    (fun _ _ _ _ _ hs _ _ => hs)
    ⟨⟨_, bO, World.ownsRow_nil _ _ _ _, trivial⟩, hB0⟩
    (fun x => { tmps := #[.slice none 0 0, .func (.func 37) #[] #[.pointer (some ⟨B, 0, none⟩)], .pointer (some ⟨w.heap.size, 0, none⟩), undef, .slice none 0 0, .string (bstr x), .func (.func 37) #[] #[.pointer (some ⟨B, 0, none⟩)], .string (bstr x), undef, undef, undef, undef, undef], defers := [] }) ?assign ?body ?done ?stop
  case assign =>
    intro l x W K hK
    gi_wp2
    exact hK
  case body =>
    rintro l pre x W ⟨⟨v, hv, hrow, _⟩, hB⟩ hlt
    have hc := hv.cell
    gi_wp2_with (gi_at_builtin; refine wpListIn_append_own _ rfl _ _ 23 rfl w.heap.size 9 i0 (.string (bstr [])) 1 16 Tryd.underlying23 hi hz0 hz1 hz2 rfl (by decide) _ _ _ rfl (hrow.alloc _) ⟨W.heap.size, 0, none⟩ 1 1 [.string (bstr x)] rfl rfl (cell_one_new _ _ _) (by simp [Value.oneCell']) (by unfold maxLen; omega) (by omega) (by have := hB.size; simp; omega) ?_; intro v' w1 hown' hgrow _; obtain ⟨g', cap', rfl⟩ := ownsRow_succ hown'; obtain ⟨hv1, hv2, hr2, hk2, hb2⟩ := hv.appended (by decide) hrow hB.size (Nat.le_refl _) hown' hgrow; have hc1 := hv1.cell; have hf1 := hv1.frozen)
    exact ⟨hk2.from _, hb2, ⟨_, hv2, by simpa [strV] using hr2, trivial⟩, hB.trans hb2⟩
  case done =>
    rintro D ys W hD rfl ⟨⟨v, hv, hrow, _⟩, hB⟩ hK
    have hc := hv.cell
    gi_wp2
    refine ⟨by simp, .inl ⟨_, _, rfl, run_takeDeferred hK, ?_⟩⟩
    exact ⟨_, results_tmp rfl _ _ _, v, rfl, ownsRow_putObj hrow _ hK rfl, hB.trans (belowK_b (w := w) (Nat.le_refl _) W D _ _ (by simp at hD; omega) hK rfl rfl)⟩
  case stop =>
    rintro D c pre W _ _ h _
    exact h.elim
set_option maxRecDepth 100000 in
set_option maxHeartbeats 1000000 in
theorem collect_any (B : Nat) (sv : Value) (zs : List (List UInt8)) (hz : zs.length ≤ 1000000) (w : World) (hB : B < w.heap.size) (hc : w.cell? ⟨B, 0, none⟩ = some sv) (hI : StrsAt w.heap.size w sv zs) :
    Calls Tryd.prog 35 #[.func (.func 37) #[] #[.pointer (some ⟨B, 0, none⟩)]] w fun e w' => ∃ v, e = .returned v ∧ w'.ownsRow w.heap.size 9 1 v zs.length (zs.map strV) ∧ Below w.heap.size w w' := by
  have hcon := Lib.hid (appendSeq_any B sv zs hz w hB hc hI)
  clear hc hI
  go_enter Tryd.func35, Tryd.ntmps35
  go_wp2_with fail
  refine hcon.out.mono ?_
  rintro e w1 ⟨v, rfl, hO, hb⟩
  have HO := Lib.hid hO
  have HB := Lib.hid hb
  clear hcon hO hb
  go_wp2_with fail
  go_ret
  exact ⟨_, rfl, HO.out, HB.out⟩
set_option maxRecDepth 100000 in
set_option maxHeartbeats 1000000 in
/-- slices.Sorted over slices.Values' function value: increasing, with the same strings. -/
theorem sortedV_any (B : Nat) (sv : Value) (zs : List (List UInt8)) (hz : zs.length ≤ 1000000) (w : World) (hB : B < w.heap.size) (hc : w.cell? ⟨B, 0, none⟩ = some sv) (hI : StrsAt w.heap.size w sv zs) :
    Calls Tryd.prog 22 #[.func (.func 37) #[] #[.pointer (some ⟨B, 0, none⟩)]] w fun e w' => ∃ v, ∃ ts : List (List UInt8), e = .returned v ∧ ts.Perm zs ∧ ts.Pairwise (fun a b => Op.bytesLess b a = false) ∧ w'.ownsRow w.heap.size 9 1 v ts.length (ts.map strV) ∧ Below w.heap.size w w' := by
  have hcon := Lib.hid (collect_any B sv zs hz w hB hc hI)
  clear hc hI
  go_enter Tryd.func22, Tryd.ntmps22
  go_wp2_with fail
  refine hcon.out.mono ?_
  rintro e w1 ⟨v, rfl, hO, hb⟩
  have HB := Lib.hid hb
  have HO := Lib.hid hO
  clear hcon hO hb
  go_wp2_with fail
  refine (sortS_any v zs _ w1 HO.out hz).mono ?_
  rintro e w2 ⟨rfl, ts, hp, hs, hO2, hg⟩
  have HP := Lib.hid hp
  have HS := Lib.hid hs
  have HO2 := Lib.hid hO2
  have HB2 := Lib.hid (HB.out.grown hg HB.out.size (fun j e => (HO.out.lt j e).1))
  clear hp hs hO2 hg HO HB
  go_wp2_with fail
  go_ret
  exact ⟨_, ts, rfl, HP.out, HS.out, HO2.out, HB2.out⟩
end Go.Proofs.YtdeeiifcjbmmiaaDoor
