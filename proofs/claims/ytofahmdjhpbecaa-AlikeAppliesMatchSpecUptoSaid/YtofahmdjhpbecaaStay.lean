/-
  'stay' of both packages.
-/
import Derived.Test.YtofahmdjhpbecaaProg
import Derived.Test.YtofahmdjhpbecaaLcs
import Derived.Test.YtofahmdjhpbecaaStr
import Derived.StillTailTactics
namespace Go.Proofs.Ytofahmdjhpbecaa
open Go.RowKit
set_option linter.unusedVariables false
set_option linter.unusedSimpArgs false

theorem sl_info : (Try.prog.info? 24).map (fun i => (i.zero, i.size, i.bytes)) = some (some (.slice none 0 0), 1, 24) := by kernel_rfl
theorem it_info : (Try.prog.info? 3).map (fun i => (i.zero, i.size, i.bytes)) = some (some (.int .i64 0), 1, 8) := by kernel_rfl
theorem stay_step (w : World) (R k : Nat) (v : Value) : (∀ q : Addr, q.block ≠ R → (w.setCell ⟨R, k, none⟩ v).drew.cell? q = w.cell? q) ∧
    (∀ z, w.cell? ⟨R, k, none⟩ = some z → (w.setCell ⟨R, k, none⟩ v).drew.cell? ⟨R, k, none⟩ = some v) ∧ (w.setCell ⟨R, k, none⟩ v).drew.frozen? ⟨R, k, none⟩ = w.frozen? ⟨R, k, none⟩ := by
  refine ⟨fun q hq => World.cell?_of_block (heap_setCell_other w ⟨R, k, none⟩ q.block v hq), fun z hz => ?_, ?_⟩
  · simp [hz, go_sem]
  · simp [go_sem]
def StayPost (a b : List (List UInt8)) (w : World) (e : Ending) (w' : World) : Prop :=
  ∃ v, e = .returned v ∧ (Rp.sl (Rp.sl (Rp.int .i64))).ok w' (· < w'.heap.size) [v] (lcsTab a b) ∧ Below w.heap.size w w'

set_option maxRecDepth 100000 in
set_option maxHeartbeats 4000000 in
theorem stay_any (v1 v2 : Value) (a b : List (List UInt8)) (w : World) (h1 : (Rp.sl Rp.str).ok w (· < w.heap.size) [v1] (a.map bstr)) (h2 : (Rp.sl Rp.str).ok w (· < w.heap.size) [v2] (b.map bstr)) (l1 : a.length ≤ 400) (l2 : b.length ≤ 400) :
    Calls Try.prog 78 #[v1, v2] w (StayPost a b w) := by
  obtain ⟨A1, c1, rfl, _, hc1, _⟩ := Rp.sl_open h1
  obtain ⟨A2, c2, rfl, _, hc2, _⟩ := Rp.sl_open h2
  have H1 := Lib.hid h1
  have H2 := Lib.hid h2
  clear h1 h2
  rw [List.length_map, List.length_map] at *
  obtain ⟨n, hn⟩ : ∃ n, a.length = n := ⟨_, rfl⟩
  obtain ⟨m, hm⟩ : ∃ m, b.length = m := ⟨_, rfl⟩
  have hmk1 : ∀ W : World, (Instr.makeSlice 105 (.int .i64 ((n : Int) + 1)) (.int .i64 ((n : Int) + 1))).run Try.prog W = .ok (.slice (some ⟨W.heap.size, 0, none⟩) (n + 1) (n + 1)) (W.alloc (Zeros (n + 1) (.slice none 0 0) 24)) :=
    fun W => run_make1 W 105 24 _ 24 Try.underlying105 sl_info rfl (n + 1) (by omega) (by omega) _ (by omega)
  have hmk2 : ∀ W : World, (Instr.makeSlice 24 (.int .i64 ((m : Int) + 1)) (.int .i64 ((m : Int) + 1))).run Try.prog W = .ok (.slice (some ⟨W.heap.size, 0, none⟩) (m + 1) (m + 1)) (W.alloc (Zeros (m + 1) (.int .i64 0) 3)) :=
    fun W => run_make1 W 24 3 _ 8 Try.underlying24 it_info rfl (m + 1) (by omega) (by omega) _ (by omega)
  have hg0 := Grid.start (E := 24) (F := 3) a b w
  rw [hn] at l1 hg0 H1 ⊢
  rw [hm] at l2 H2 ⊢
  have HG0 : Hid (Grid 24 3 a b w.heap.size 0 (w.alloc (Zeros (n + 1) (.slice none 0 0) 24))) := hg0
  have HN := Lib.hid hn
  have HM := Lib.hid hm
  clear hg0 hn hm
  go_enter Try.func78, Try.ntmps78
  go_wp2
  generalize hG : w.heap.size = G at *
  have HG := Lib.hid hG
  clear hG
  go_loopw [6] (fun i wr => ∃ c : Nat, c ≤ n + 1 ∧ i = .int .i64 ((n : Int) - c) ∧ Hid (Grid 24 3 a b G c wr) ∧ Hid (Below G w wr)) (fun i _ => (intOf i + 1).toNat)
  case atStart => exact ⟨0, by omega, by simp, HG0, (Below.refl G w).alloc (by rw [HG.out]; exact Nat.le_refl _) _⟩
  case round =>
    obtain ⟨c, hc, rfl, HGR, HW⟩ := hrel
    have hwsz := HW.out.size
    by_cases hcn : c ≤ n
    · obtain ⟨i, hi⟩ : ∃ i, i + c = n := ⟨n - c, by omega⟩
      rw [show ((n : Int) - (c : Int)) = (i : Int) by omega]
      have hin : i ≤ n := by omega
      have HI := Lib.hid hi
      have hrs := HGR.out.size
      have htop := HGR.out.top.alloc_old (Zeros (m + 1) (.int .i64 0) 3)
      have hcell : (wr.alloc (Zeros (m + 1) (.int .i64 0) 3)).cell? ⟨G, i, none⟩ = some (.slice none 0 0) := by
        rw [htop.cell, rowsC_nil]; rw [HN.out]; exact hi
      have hfr := htop.frozen i
      have hnx := HGR.out.next (i := i) (by rw [HN.out]; exact hi)
      rw [HM.out, hrs] at hnx
      have HNX : Hid (GridIn 24 3 a b G c 0 ((wr.alloc (Zeros (m + 1) (.int .i64 0) 3)).setCell ⟨G, i, none⟩ (.slice (some ⟨G + 1 + c, 0, none⟩) (m + 1) (m + 1)))) := hnx
      have hw2 : Below G w ((wr.alloc (Zeros (m + 1) (.int .i64 0) 3)).setCell ⟨G, i, none⟩ (.slice (some ⟨G + 1 + c, 0, none⟩) (m + 1) (m + 1))) := (HW.out.alloc (by omega) _).setCell (Nat.le_refl _) _
      have HW2 := Lib.hid hw2
      clear hi htop hnx hw2
      have hRl : G < G + 1 + c := by omega
      obtain ⟨wo, rfl⟩ : ∃ wo : World, wo = wr := ⟨_, rfl⟩
      rw [World.setCell_alloc_past (hn := show G < wo.heap.size by omega)] at HNX HW2
      go_wp2
      clear hcell hfr hrs hmk1 hmk2 HG0
      generalize hR : G + 1 + c = R at *
      have HR := Lib.hid hR
      clear hR
      go_loopw [7] (fun k wr => ∃ d : Nat, d ≤ m ∧ k = .int .i64 ((m : Int) - 1 - d) ∧ Hid (GridIn 24 3 a b G c d wr) ∧ Hid (Below G w wr)) (fun k _ => (intOf k + 1).toNat)
      case atStart => exact ⟨0, by omega, by simp, HNX, HW2⟩
      case round =>
        clear HNX HW2
        obtain ⟨d, hd, rfl, HGI, HWI⟩ := hrel
        by_cases hgo : d < m ∧ i < n
        · obtain ⟨hdm, hilt⟩ := hgo
          obtain ⟨k, hk⟩ : ∃ k, k + d + 1 = m := ⟨m - 1 - d, by omega⟩
          rw [show ((m : Int) - 1 - (d : Int)) = (k : Int) by omega]
          have hkm : k < m := by omega
          have HK := Lib.hid hk
          have hi := HI.out
          have hn := HN.out
          have hm := HM.out
          have hR := HR.out
          have hR0 : wr.cell? ⟨G, i, none⟩ = some (.slice (some ⟨R, 0, none⟩) (m + 1) (m + 1)) := by
            rw [HGI.out.top.cell, rowsC_at _ _ _ _ _ (by omega) (by omega), hn, hm, show G + 1 + (n - i) = R by omega]
          have hR1 : wr.cell? ⟨G, i + 1, none⟩ = some (.slice (some ⟨G + c, 0, none⟩) (m + 1) (m + 1)) := by
            rw [HGI.out.top.cell, rowsC_at _ _ _ _ _ (by omega) (by omega), hn, hm, show G + 1 + (n - (i + 1)) = G + c by omega]
          have hrow := HGI.out.row (c - 1) (by omega)
          rw [show G + 1 + (c - 1) = G + c by omega, hn, show n - (c - 1) = i + 1 by omega, hm] at hrow
          have hnow := HGI.out.now
          rw [hR, hn, show n - c = i by omega] at hnow
          have hv1 : wr.cell? ⟨G + c, k, none⟩ = some (.int .i64 (lcsAt a b (i + 1) k : Nat)) := by rw [hrow.cell, valsP_at _ _ _ _ _ (by omega) (by omega)]
          have hv2 : wr.cell? ⟨G + c, k + 1, none⟩ = some (.int .i64 (lcsAt a b (i + 1) (k + 1) : Nat)) := by rw [hrow.cell, valsP_at _ _ _ _ _ (by omega) (by omega)]
          have hv3 : wr.cell? ⟨R, k + 1, none⟩ = some (.int .i64 (lcsAt a b i (k + 1) : Nat)) := by rw [hnow.cell, valsP_at _ _ _ _ _ (by omega) (by omega)]
          obtain ⟨z, hz⟩ := Option.isSome_iff_exists.1 (valsP_some a b i d k (by omega))
          have hv4 : wr.cell? ⟨R, k, none⟩ = some z := by rw [hnow.cell, hz]
          have hfr := hnow.frozen k
          have g1 := (lcsAt_le a b (i + 1) k).1
          have g2 := (lcsAt_le a b (i + 1) (k + 1)).1
          have g3 := (lcsAt_le a b i (k + 1)).1
          rw [hn] at g1 g2 g3
          have hread1 := Rp.keep _ H1.out (same_below HWI.out) (fun _ h => h)
          have hread2 := Rp.keep _ H2.out (same_below HWI.out) (fun _ h => h)
          have hia : i < a.length := by omega
          have hkb : k < b.length := by omega
          obtain ⟨ad1, u1, rfl, hlt1, hu1, hc1'⟩ := Rp.sl_at1 rfl hread1 (k := i) (by rw [List.length_map]; exact hia)
          obtain ⟨ad2, u2, rfl, hlt2, hu2, hc2'⟩ := Rp.sl_at1 rfl hread2 (k := k) (by rw [List.length_map]; exact hkb)
          obtain ⟨hu1, _⟩ := hu1
          obtain ⟨hu2, _⟩ := hu2
          injection hu1 with hu1
          injection hu2 with hu2
          rw [List.getElem_map] at hu1 hu2
          subst hu1 hu2
          have hce : G + c ≠ R := by omega
          by_cases hab : a[i]'hia = b[k]'hkb
          · have hval := lcsAt_eq a b i k (by omega) (by omega) hab
            have hset := fun v q => HGI.out.set2 (k := k) (R := R) (i := i) (by rw [hm]; exact hk) hR.symm (by rw [hn]; exact hi) v q
            rw [hval] at hset
            have hteq : ((bstr (a[i]'hia)).toList == (bstr (b[k]'hkb)).toList) = true := str_beq (by rw [hab])
            have HST := Lib.hid hset
            clear hi hn hm hR hk hrow hnow hz hab hval hset hread1 hread2
            generalize lcsAt a b (i + 1) k = p at *
            generalize lcsAt a b (i + 1) (k + 1) = q at *
            generalize lcsAt a b i (k + 1) = r at *
            obtain ⟨vm, hvm⟩ : ∃ vm : Nat, max p r = vm := ⟨_, rfl⟩
            rw [hvm] at HST
            have hmx : (if p < r then (r : Int) else (p : Int)) = (vm : Int) := by split <;> omega
            have hmy : (if vm < q + 1 then (q : Int) + 1 else (vm : Int)) = ((max vm (q + 1) : Nat) : Int) := by split <;> omega
            have hmz : (if (vm : Int) < (q : Int) + 1 then (q : Int) + 1 else (vm : Int)) = ((max vm (q + 1) : Nat) : Int) := by split <;> omega
            have hvm2 : vm ≤ n := by omega
            have HMX := Lib.hid hmx
            have HMY := Lib.hid hmy
            have HMZ := Lib.hid hmz
            clear hvm hmx hmy hmz
            have b1 : (i : Int) < (n : Int) + 1 := by omega
            have b2 : (i : Int) + 1 < (n : Int) + 1 := by omega
            have b3 : (k : Int) < (m : Int) + 1 := by omega
            have b4 : (k : Int) + 1 < (m : Int) + 1 := by omega
            have b5 : (0 : Int) ≤ (i : Int) + 1 := by omega
            have b6 : (0 : Int) ≤ (k : Int) + 1 := by omega
            have t1 : ((i : Int) + 1).toNat = i + 1 := by omega
            have t2 : ((k : Int) + 1).toNat = k + 1 := by omega
            have s1 : IntKind.i64.wrap ((i : Int) + 1) = (i : Int) + 1 := IntWalk.i64_in _ (by omega)
            have s2 : IntKind.i64.wrap ((k : Int) + 1) = (k : Int) + 1 := IntWalk.i64_in _ (by omega)
            have t3 : ((q : Int) + 1).toNat = q + 1 := by omega
            have s3 : IntKind.i64.wrap ((q : Int) + 1) = (q : Int) + 1 := IntWalk.i64_in _ (by omega)
            go_wp2
            refine wp_region_still_tail 23 (by kernel_rfl) (by kernel_rfl) ?_
            simp only [List.take_succ_cons, List.take_zero, List.drop_succ_cons, List.drop_zero, show ({ heap := wr.heap, tape := wr.tape, drawn := wr.drawn + 1, os := wr.os, output := wr.output } : World) = wr.drew from rfl]
            repeat still_step
            refine wpStill_nil ?_
            rw [HMX.out]
            go_wp2
            have key := stay_step wr R k (.int .i64 vm)
            obtain ⟨k1, k2, k3⟩ := key
            have hR0 := (k1 ⟨G, i, none⟩ (by show G ≠ R; omega)).trans hR0
            have hR1 := (k1 ⟨G, i + 1, none⟩ (by show G ≠ R; omega)).trans hR1
            have hv2 := (k1 ⟨G + c, k + 1, none⟩ hce).trans hv2
            have hc1' := (k1 (ad1.add i) (by rw [add_block]; omega)).trans hc1'
            have hc2' := (k1 (ad2.add k) (by rw [add_block]; omega)).trans hc2'
            have hown := k2 _ hv4
            have hfr := k3.trans hfr
            have HST := Lib.hid (HST.out (.int .i64 vm) 1)
            have HB1 : Hid (Below G w (wr.setCell ⟨R, k, none⟩ (.int .i64 vm)).drew) := below_drewN (HWI.out.setCell (by show G ≤ R; omega) _) 1
            have HST : Hid (GridIn 24 3 a b G c (d + 1) (((wr.setCell ⟨R, k, none⟩ (.int .i64 vm)).drew).setCell ⟨R, k, none⟩ (.int .i64 ((max vm (q + 1) : Nat) : Int)))) := HST
            clear k1 k2 k3
            generalize (wr.setCell ⟨R, k, none⟩ (.int .i64 vm)).drew = ws at *
            clear hv1 hv3 hv4
            go_wp2
            go_quiet (fail)
            go_wp2
            obtain ⟨wq, hwq⟩ : ∃ wq, ws.drewN nq = wq := ⟨_, rfl⟩
            have hR0 : wq.cell? ⟨G, i, none⟩ = some (.slice (some ⟨R, 0, none⟩) (m + 1) (m + 1)) := by rw [← hwq]; exact hR0
            have hR1 : wq.cell? ⟨G, i + 1, none⟩ = some (.slice (some ⟨G + c, 0, none⟩) (m + 1) (m + 1)) := by rw [← hwq]; exact hR1
            have hv2 : wq.cell? ⟨G + c, k + 1, none⟩ = some (.int .i64 q) := by rw [← hwq]; exact hv2
            have hown : wq.cell? ⟨R, k, none⟩ = some (.int .i64 vm) := by rw [← hwq]; exact hown
            have hfr : wq.frozen? ⟨R, k, none⟩ = false := by rw [← hwq]; exact hfr
            have HST : Hid (GridIn 24 3 a b G c (d + 1) (wq.setCell ⟨R, k, none⟩ (.int .i64 ((max vm (q + 1) : Nat) : Int)))) := by rw [← hwq]; exact HST.out.heap rfl
            have HB1 : Hid (Below G w wq) := by rw [← hwq]; exact below_drewN HB1.out _
            rw [hwq]
            clear hwq
            refine wp_region_still_tail 24 (by kernel_rfl) (by kernel_rfl) ?_
            simp only [List.take_succ_cons, List.take_zero, List.drop_succ_cons, List.drop_zero, show ({ heap := wq.heap, tape := wq.tape, drawn := wq.drawn + 1, os := wq.os, output := wq.output } : World) = wq.drew from rfl]
            repeat still_step
            refine wpStill_nil ?_
            clear s1 s2 s3 t1 t2 t3 b1 b2 b3 b4 b5 b6
            first | rw [HMY.out] | rw [HMZ.out]
            have HB2 : Hid (Below G w (wq.setCell ⟨R, k, none⟩ (.int .i64 ((max vm (q + 1) : Nat) : Int))).drew) := below_drewN (HB1.out.setCell (by show G ≤ R; omega) _) 1
            go_wp2
            go_roundw
            case rel => exact ⟨d + 1, by omega, by have := HK.out; congr 1; omega, HST.out.heap rfl, HB2⟩
            case measure => simp [intOf] <;> omega
          · have hval := lcsAt_ne a b i k (by omega) (by omega) hab
            have hset := HGI.out.set (k := k) (R := R) (i := i) (by rw [hm]; exact hk) hR.symm (by rw [hn]; exact hi)
            rw [hval] at hset
            have hteq : ((bstr (a[i]'hia)).toList == (bstr (b[k]'hkb)).toList) = false := str_bne (fun e => hab (bstr_inj e))
            have HST := Lib.hid hset
            clear hi hn hm hR hk hrow hnow hz hab hval hset hread1 hread2
            generalize lcsAt a b (i + 1) k = p at *
            generalize lcsAt a b (i + 1) (k + 1) = q at *
            generalize lcsAt a b i (k + 1) = r at *
            obtain ⟨vm, hvm⟩ : ∃ vm : Nat, max p r = vm := ⟨_, rfl⟩
            rw [hvm] at HST
            have hmx : (if p < r then (r : Int) else (p : Int)) = (vm : Int) := by split <;> omega
            have hvm2 : vm ≤ n := by omega
            have HMX := Lib.hid hmx
            clear hvm hmx
            have b1 : (i : Int) < (n : Int) + 1 := by omega
            have b2 : (i : Int) + 1 < (n : Int) + 1 := by omega
            have b3 : (k : Int) < (m : Int) + 1 := by omega
            have b4 : (k : Int) + 1 < (m : Int) + 1 := by omega
            have b5 : (0 : Int) ≤ (i : Int) + 1 := by omega
            have b6 : (0 : Int) ≤ (k : Int) + 1 := by omega
            have t1 : ((i : Int) + 1).toNat = i + 1 := by omega
            have t2 : ((k : Int) + 1).toNat = k + 1 := by omega
            have s1 : IntKind.i64.wrap ((i : Int) + 1) = (i : Int) + 1 := IntWalk.i64_in _ (by omega)
            have s2 : IntKind.i64.wrap ((k : Int) + 1) = (k : Int) + 1 := IntWalk.i64_in _ (by omega)
            go_wp2
            refine wp_region_still_tail 23 (by kernel_rfl) (by kernel_rfl) ?_
            simp only [List.take_succ_cons, List.take_zero, List.drop_succ_cons, List.drop_zero, show ({ heap := wr.heap, tape := wr.tape, drawn := wr.drawn + 1, os := wr.os, output := wr.output } : World) = wr.drew from rfl]
            repeat still_step
            refine wpStill_nil ?_
            clear s1 s2 t1 t2 b1 b2 b3 b4 b5 b6
            rw [HMX.out]
            go_wp2
            have key := stay_step wr R k (.int .i64 vm)
            obtain ⟨k1, k2, k3⟩ := key
            have hc1' := (k1 (ad1.add i) (by rw [add_block]; omega)).trans hc1'
            have hc2' := (k1 (ad2.add k) (by rw [add_block]; omega)).trans hc2'
            have HB1 : Hid (Below G w (wr.setCell ⟨R, k, none⟩ (.int .i64 vm)).drew) := below_drewN (HWI.out.setCell (by show G ≤ R; omega) _) 1
            have HST : Hid (GridIn 24 3 a b G c (d + 1) ((wr.setCell ⟨R, k, none⟩ (.int .i64 vm)).drew)) := HST.out.heap rfl
            clear k1 k2 k3
            generalize (wr.setCell ⟨R, k, none⟩ (.int .i64 vm)).drew = ws at *
            clear hv1 hv2 hv3 hv4 hR0 hR1 hfr
            go_wp2
            go_quiet (fail)
            go_wp2
            go_roundw
            case rel => exact ⟨d + 1, by omega, by have := HK.out; congr 1; omega, HST.out.heap rfl, below_drewN HB1.out _⟩
            case measure => simp [intOf] <;> omega
        · have hstop : (d = m) ∨ (d < m ∧ i = n) := by omega
          have HGU : Hid (Grid 24 3 a b G (c + 1) wr) := by
            refine GridIn.up ?_
            have hg := HGI.out
            have hi := HI.out
            have hn := HN.out
            have hm := HM.out
            rcases hstop with h | ⟨_, h⟩
            · rw [← hm] at h; rw [h] at hg; exact hg
            · exact ⟨hg.top, hg.row, by rw [← valsP_last a b _ d (by omega)]; exact hg.now, hg.size⟩
          have hnext : Hid (Value.int .i64 ((i : Int) - 1) = .int .i64 ((n : Int) - ((c + 1 : Nat) : Int))) := by
            have := HI.out
            show _ = _
            congr 1; omega
          clear HGI
          rcases hstop with h | ⟨h0, h⟩
          · have hneg : ((m : Int) - 1 - (d : Int)) = -1 := by omega
            rw [hneg]
            clear hneg h
            go_wp2
            go_roundw
            case rel => exact ⟨c + 1, by omega, hnext.out, HGU, HWI⟩
            case measure => simp [intOf] <;> omega
          · have hk0 : (0 : Int) ≤ (m : Int) - 1 - (d : Int) := by omega
            have hie : ¬ (i : Int) < (n : Int) := by omega
            generalize (m : Int) - 1 - (d : Int) = kk at *
            clear h
            go_wp2
            go_roundw
            case rel => exact ⟨c + 1, by omega, hnext.out, HGU, HWI⟩
            case measure => simp [intOf] <;> omega
    · obtain rfl : c = n + 1 := by omega
      rw [show ((n : Int) - ((n + 1 : Nat) : Int)) = -1 by omega]
      have hfin : Hid (StayPost a b w (.returned (.slice (some ⟨G, 0, none⟩) (n + 1) (n + 1))) wr) := by
        have hg := HGR.out
        rw [← HN.out] at hg
        have := hg.read (by rw [HN.out]; exact l1) (by rw [HM.out]; exact l2)
        rw [HN.out] at this
        exact ⟨_, rfl, this, by rw [HG.out]; exact HW.out⟩
      go_wp2
      go_ret
      exact hfin.out

set_option maxRecDepth 100000 in
set_option maxHeartbeats 4000000 in
theorem refStay_any (v1 v2 : Value) (a b : List (List UInt8)) (w : World) (h1 : (Rp.sl Rp.str).ok w (· < w.heap.size) [v1] (a.map bstr)) (h2 : (Rp.sl Rp.str).ok w (· < w.heap.size) [v2] (b.map bstr)) (l1 : a.length ≤ 400) (l2 : b.length ≤ 400) :
    Calls Try.prog 75 #[v1, v2] w (StayPost a b w) := by
  obtain ⟨A1, c1, rfl, _, hc1, _⟩ := Rp.sl_open h1
  obtain ⟨A2, c2, rfl, _, hc2, _⟩ := Rp.sl_open h2
  have H1 := Lib.hid h1
  have H2 := Lib.hid h2
  clear h1 h2
  rw [List.length_map, List.length_map] at *
  obtain ⟨n, hn⟩ : ∃ n, a.length = n := ⟨_, rfl⟩
  obtain ⟨m, hm⟩ : ∃ m, b.length = m := ⟨_, rfl⟩
  have hmk1 : ∀ W : World, (Instr.makeSlice 105 (.int .i64 ((n : Int) + 1)) (.int .i64 ((n : Int) + 1))).run Try.prog W = .ok (.slice (some ⟨W.heap.size, 0, none⟩) (n + 1) (n + 1)) (W.alloc (Zeros (n + 1) (.slice none 0 0) 24)) :=
    fun W => run_make1 W 105 24 _ 24 Try.underlying105 sl_info rfl (n + 1) (by omega) (by omega) _ (by omega)
  have hmk2 : ∀ W : World, (Instr.makeSlice 24 (.int .i64 ((m : Int) + 1)) (.int .i64 ((m : Int) + 1))).run Try.prog W = .ok (.slice (some ⟨W.heap.size, 0, none⟩) (m + 1) (m + 1)) (W.alloc (Zeros (m + 1) (.int .i64 0) 3)) :=
    fun W => run_make1 W 24 3 _ 8 Try.underlying24 it_info rfl (m + 1) (by omega) (by omega) _ (by omega)
  have hg0 := Grid.start (E := 24) (F := 3) a b w
  rw [hn] at l1 hg0 H1 ⊢
  rw [hm] at l2 H2 ⊢
  have HG0 : Hid (Grid 24 3 a b w.heap.size 0 (w.alloc (Zeros (n + 1) (.slice none 0 0) 24))) := hg0
  have HN := Lib.hid hn
  have HM := Lib.hid hm
  clear hg0 hn hm
  go_enter Try.func75, Try.ntmps75
  go_wp2
  generalize hG : w.heap.size = G at *
  have HG := Lib.hid hG
  clear hG
  go_loopw [6] (fun i wr => ∃ c : Nat, c ≤ n + 1 ∧ i = .int .i64 ((n : Int) - c) ∧ Hid (Grid 24 3 a b G c wr) ∧ Hid (Below G w wr)) (fun i _ => (intOf i + 1).toNat)
  case atStart => exact ⟨0, by omega, by simp, HG0, (Below.refl G w).alloc (by rw [HG.out]; exact Nat.le_refl _) _⟩
  case round =>
    obtain ⟨c, hc, rfl, HGR, HW⟩ := hrel
    have hwsz := HW.out.size
    by_cases hcn : c ≤ n
    · obtain ⟨i, hi⟩ : ∃ i, i + c = n := ⟨n - c, by omega⟩
      rw [show ((n : Int) - (c : Int)) = (i : Int) by omega]
      have hin : i ≤ n := by omega
      have HI := Lib.hid hi
      have hrs := HGR.out.size
      have htop := HGR.out.top.alloc_old (Zeros (m + 1) (.int .i64 0) 3)
      have hcell : (wr.alloc (Zeros (m + 1) (.int .i64 0) 3)).cell? ⟨G, i, none⟩ = some (.slice none 0 0) := by
        rw [htop.cell, rowsC_nil]; rw [HN.out]; exact hi
      have hfr := htop.frozen i
      have hnx := HGR.out.next (i := i) (by rw [HN.out]; exact hi)
      rw [HM.out, hrs] at hnx
      have HNX : Hid (GridIn 24 3 a b G c 0 ((wr.alloc (Zeros (m + 1) (.int .i64 0) 3)).setCell ⟨G, i, none⟩ (.slice (some ⟨G + 1 + c, 0, none⟩) (m + 1) (m + 1)))) := hnx
      have hw2 : Below G w ((wr.alloc (Zeros (m + 1) (.int .i64 0) 3)).setCell ⟨G, i, none⟩ (.slice (some ⟨G + 1 + c, 0, none⟩) (m + 1) (m + 1))) := (HW.out.alloc (by omega) _).setCell (Nat.le_refl _) _
      have HW2 := Lib.hid hw2
      clear hi htop hnx hw2
      have hRl : G < G + 1 + c := by omega
      obtain ⟨wo, rfl⟩ : ∃ wo : World, wo = wr := ⟨_, rfl⟩
      rw [World.setCell_alloc_past (hn := show G < wo.heap.size by omega)] at HNX HW2
      go_wp2
      clear hcell hfr hrs hmk1 hmk2 HG0
      generalize hR : G + 1 + c = R at *
      have HR := Lib.hid hR
      clear hR
      go_loopw [7] (fun k wr => ∃ d : Nat, d ≤ m ∧ k = .int .i64 ((m : Int) - 1 - d) ∧ Hid (GridIn 24 3 a b G c d wr) ∧ Hid (Below G w wr)) (fun k _ => (intOf k + 1).toNat)
      case atStart => exact ⟨0, by omega, by simp, HNX, HW2⟩
      case round =>
        clear HNX HW2
        obtain ⟨d, hd, rfl, HGI, HWI⟩ := hrel
        by_cases hgo : d < m ∧ i < n
        · obtain ⟨hdm, hilt⟩ := hgo
          obtain ⟨k, hk⟩ : ∃ k, k + d + 1 = m := ⟨m - 1 - d, by omega⟩
          rw [show ((m : Int) - 1 - (d : Int)) = (k : Int) by omega]
          have hkm : k < m := by omega
          have HK := Lib.hid hk
          have hi := HI.out
          have hn := HN.out
          have hm := HM.out
          have hR := HR.out
          have hR0 : wr.cell? ⟨G, i, none⟩ = some (.slice (some ⟨R, 0, none⟩) (m + 1) (m + 1)) := by
            rw [HGI.out.top.cell, rowsC_at _ _ _ _ _ (by omega) (by omega), hn, hm, show G + 1 + (n - i) = R by omega]
          have hR1 : wr.cell? ⟨G, i + 1, none⟩ = some (.slice (some ⟨G + c, 0, none⟩) (m + 1) (m + 1)) := by
            rw [HGI.out.top.cell, rowsC_at _ _ _ _ _ (by omega) (by omega), hn, hm, show G + 1 + (n - (i + 1)) = G + c by omega]
          have hrow := HGI.out.row (c - 1) (by omega)
          rw [show G + 1 + (c - 1) = G + c by omega, hn, show n - (c - 1) = i + 1 by omega, hm] at hrow
          have hnow := HGI.out.now
          rw [hR, hn, show n - c = i by omega] at hnow
          have hv1 : wr.cell? ⟨G + c, k, none⟩ = some (.int .i64 (lcsAt a b (i + 1) k : Nat)) := by rw [hrow.cell, valsP_at _ _ _ _ _ (by omega) (by omega)]
          have hv2 : wr.cell? ⟨G + c, k + 1, none⟩ = some (.int .i64 (lcsAt a b (i + 1) (k + 1) : Nat)) := by rw [hrow.cell, valsP_at _ _ _ _ _ (by omega) (by omega)]
          have hv3 : wr.cell? ⟨R, k + 1, none⟩ = some (.int .i64 (lcsAt a b i (k + 1) : Nat)) := by rw [hnow.cell, valsP_at _ _ _ _ _ (by omega) (by omega)]
          obtain ⟨z, hz⟩ := Option.isSome_iff_exists.1 (valsP_some a b i d k (by omega))
          have hv4 : wr.cell? ⟨R, k, none⟩ = some z := by rw [hnow.cell, hz]
          have hfr := hnow.frozen k
          have g1 := (lcsAt_le a b (i + 1) k).1
          have g2 := (lcsAt_le a b (i + 1) (k + 1)).1
          have g3 := (lcsAt_le a b i (k + 1)).1
          rw [hn] at g1 g2 g3
          have hread1 := Rp.keep _ H1.out (same_below HWI.out) (fun _ h => h)
          have hread2 := Rp.keep _ H2.out (same_below HWI.out) (fun _ h => h)
          have hia : i < a.length := by omega
          have hkb : k < b.length := by omega
          obtain ⟨ad1, u1, rfl, hlt1, hu1, hc1'⟩ := Rp.sl_at1 rfl hread1 (k := i) (by rw [List.length_map]; exact hia)
          obtain ⟨ad2, u2, rfl, hlt2, hu2, hc2'⟩ := Rp.sl_at1 rfl hread2 (k := k) (by rw [List.length_map]; exact hkb)
          obtain ⟨hu1, _⟩ := hu1
          obtain ⟨hu2, _⟩ := hu2
          injection hu1 with hu1
          injection hu2 with hu2
          rw [List.getElem_map] at hu1 hu2
          subst hu1 hu2
          have hce : G + c ≠ R := by omega
          by_cases hab : a[i]'hia = b[k]'hkb
          · have hval := lcsAt_eq a b i k (by omega) (by omega) hab
            have hset := fun v q => HGI.out.set2 (k := k) (R := R) (i := i) (by rw [hm]; exact hk) hR.symm (by rw [hn]; exact hi) v q
            rw [hval] at hset
            have hteq : ((bstr (a[i]'hia)).toList == (bstr (b[k]'hkb)).toList) = true := str_beq (by rw [hab])
            have HST := Lib.hid hset
            clear hi hn hm hR hk hrow hnow hz hab hval hset hread1 hread2
            generalize lcsAt a b (i + 1) k = p at *
            generalize lcsAt a b (i + 1) (k + 1) = q at *
            generalize lcsAt a b i (k + 1) = r at *
            obtain ⟨vm, hvm⟩ : ∃ vm : Nat, max p r = vm := ⟨_, rfl⟩
            rw [hvm] at HST
            have hmx : (if p < r then (r : Int) else (p : Int)) = (vm : Int) := by split <;> omega
            have hmy : (if vm < q + 1 then (q : Int) + 1 else (vm : Int)) = ((max vm (q + 1) : Nat) : Int) := by split <;> omega
            have hmz : (if (vm : Int) < (q : Int) + 1 then (q : Int) + 1 else (vm : Int)) = ((max vm (q + 1) : Nat) : Int) := by split <;> omega
            have hvm2 : vm ≤ n := by omega
            have HMX := Lib.hid hmx
            have HMY := Lib.hid hmy
            have HMZ := Lib.hid hmz
            clear hvm hmx hmy hmz
            have b1 : (i : Int) < (n : Int) + 1 := by omega
            have b2 : (i : Int) + 1 < (n : Int) + 1 := by omega
            have b3 : (k : Int) < (m : Int) + 1 := by omega
            have b4 : (k : Int) + 1 < (m : Int) + 1 := by omega
            have b5 : (0 : Int) ≤ (i : Int) + 1 := by omega
            have b6 : (0 : Int) ≤ (k : Int) + 1 := by omega
            have t1 : ((i : Int) + 1).toNat = i + 1 := by omega
            have t2 : ((k : Int) + 1).toNat = k + 1 := by omega
            have s1 : IntKind.i64.wrap ((i : Int) + 1) = (i : Int) + 1 := IntWalk.i64_in _ (by omega)
            have s2 : IntKind.i64.wrap ((k : Int) + 1) = (k : Int) + 1 := IntWalk.i64_in _ (by omega)
            have t3 : ((q : Int) + 1).toNat = q + 1 := by omega
            have s3 : IntKind.i64.wrap ((q : Int) + 1) = (q : Int) + 1 := IntWalk.i64_in _ (by omega)
            go_wp2
            refine wp_region_still_tail 23 (by kernel_rfl) (by kernel_rfl) ?_
            simp only [List.take_succ_cons, List.take_zero, List.drop_succ_cons, List.drop_zero, show ({ heap := wr.heap, tape := wr.tape, drawn := wr.drawn + 1, os := wr.os, output := wr.output } : World) = wr.drew from rfl]
            repeat still_step
            refine wpStill_nil ?_
            rw [HMX.out]
            go_wp2
            have key := stay_step wr R k (.int .i64 vm)
            obtain ⟨k1, k2, k3⟩ := key
            have hR0 := (k1 ⟨G, i, none⟩ (by show G ≠ R; omega)).trans hR0
            have hR1 := (k1 ⟨G, i + 1, none⟩ (by show G ≠ R; omega)).trans hR1
            have hv2 := (k1 ⟨G + c, k + 1, none⟩ hce).trans hv2
            have hc1' := (k1 (ad1.add i) (by rw [add_block]; omega)).trans hc1'
            have hc2' := (k1 (ad2.add k) (by rw [add_block]; omega)).trans hc2'
            have hown := k2 _ hv4
            have hfr := k3.trans hfr
            have HST := Lib.hid (HST.out (.int .i64 vm) 1)
            have HB1 : Hid (Below G w (wr.setCell ⟨R, k, none⟩ (.int .i64 vm)).drew) := below_drewN (HWI.out.setCell (by show G ≤ R; omega) _) 1
            have HST : Hid (GridIn 24 3 a b G c (d + 1) (((wr.setCell ⟨R, k, none⟩ (.int .i64 vm)).drew).setCell ⟨R, k, none⟩ (.int .i64 ((max vm (q + 1) : Nat) : Int)))) := HST
            clear k1 k2 k3
            generalize (wr.setCell ⟨R, k, none⟩ (.int .i64 vm)).drew = ws at *
            clear hv1 hv3 hv4
            go_wp2
            go_quiet (fail)
            go_wp2
            obtain ⟨wq, hwq⟩ : ∃ wq, ws.drewN nq = wq := ⟨_, rfl⟩
            have hR0 : wq.cell? ⟨G, i, none⟩ = some (.slice (some ⟨R, 0, none⟩) (m + 1) (m + 1)) := by rw [← hwq]; exact hR0
            have hR1 : wq.cell? ⟨G, i + 1, none⟩ = some (.slice (some ⟨G + c, 0, none⟩) (m + 1) (m + 1)) := by rw [← hwq]; exact hR1
            have hv2 : wq.cell? ⟨G + c, k + 1, none⟩ = some (.int .i64 q) := by rw [← hwq]; exact hv2
            have hown : wq.cell? ⟨R, k, none⟩ = some (.int .i64 vm) := by rw [← hwq]; exact hown
            have hfr : wq.frozen? ⟨R, k, none⟩ = false := by rw [← hwq]; exact hfr
            have HST : Hid (GridIn 24 3 a b G c (d + 1) (wq.setCell ⟨R, k, none⟩ (.int .i64 ((max vm (q + 1) : Nat) : Int)))) := by rw [← hwq]; exact HST.out.heap rfl
            have HB1 : Hid (Below G w wq) := by rw [← hwq]; exact below_drewN HB1.out _
            rw [hwq]
            clear hwq
            refine wp_region_still_tail 24 (by kernel_rfl) (by kernel_rfl) ?_
            simp only [List.take_succ_cons, List.take_zero, List.drop_succ_cons, List.drop_zero, show ({ heap := wq.heap, tape := wq.tape, drawn := wq.drawn + 1, os := wq.os, output := wq.output } : World) = wq.drew from rfl]
            repeat still_step
            refine wpStill_nil ?_
            clear s1 s2 s3 t1 t2 t3 b1 b2 b3 b4 b5 b6
            first | rw [HMY.out] | rw [HMZ.out]
            have HB2 : Hid (Below G w (wq.setCell ⟨R, k, none⟩ (.int .i64 ((max vm (q + 1) : Nat) : Int))).drew) := below_drewN (HB1.out.setCell (by show G ≤ R; omega) _) 1
            go_wp2
            go_roundw
            case rel => exact ⟨d + 1, by omega, by have := HK.out; congr 1; omega, HST.out.heap rfl, HB2⟩
            case measure => simp [intOf] <;> omega
          · have hval := lcsAt_ne a b i k (by omega) (by omega) hab
            have hset := HGI.out.set (k := k) (R := R) (i := i) (by rw [hm]; exact hk) hR.symm (by rw [hn]; exact hi)
            rw [hval] at hset
            have hteq : ((bstr (a[i]'hia)).toList == (bstr (b[k]'hkb)).toList) = false := str_bne (fun e => hab (bstr_inj e))
            have HST := Lib.hid hset
            clear hi hn hm hR hk hrow hnow hz hab hval hset hread1 hread2
            generalize lcsAt a b (i + 1) k = p at *
            generalize lcsAt a b (i + 1) (k + 1) = q at *
            generalize lcsAt a b i (k + 1) = r at *
            obtain ⟨vm, hvm⟩ : ∃ vm : Nat, max p r = vm := ⟨_, rfl⟩
            rw [hvm] at HST
            have hmx : (if p < r then (r : Int) else (p : Int)) = (vm : Int) := by split <;> omega
            have hvm2 : vm ≤ n := by omega
            have HMX := Lib.hid hmx
            clear hvm hmx
            have b1 : (i : Int) < (n : Int) + 1 := by omega
            have b2 : (i : Int) + 1 < (n : Int) + 1 := by omega
            have b3 : (k : Int) < (m : Int) + 1 := by omega
            have b4 : (k : Int) + 1 < (m : Int) + 1 := by omega
            have b5 : (0 : Int) ≤ (i : Int) + 1 := by omega
            have b6 : (0 : Int) ≤ (k : Int) + 1 := by omega
            have t1 : ((i : Int) + 1).toNat = i + 1 := by omega
            have t2 : ((k : Int) + 1).toNat = k + 1 := by omega
            have s1 : IntKind.i64.wrap ((i : Int) + 1) = (i : Int) + 1 := IntWalk.i64_in _ (by omega)
            have s2 : IntKind.i64.wrap ((k : Int) + 1) = (k : Int) + 1 := IntWalk.i64_in _ (by omega)
            go_wp2
            refine wp_region_still_tail 23 (by kernel_rfl) (by kernel_rfl) ?_
            simp only [List.take_succ_cons, List.take_zero, List.drop_succ_cons, List.drop_zero, show ({ heap := wr.heap, tape := wr.tape, drawn := wr.drawn + 1, os := wr.os, output := wr.output } : World) = wr.drew from rfl]
            repeat still_step
            refine wpStill_nil ?_
            clear s1 s2 t1 t2 b1 b2 b3 b4 b5 b6
            rw [HMX.out]
            go_wp2
            have key := stay_step wr R k (.int .i64 vm)
            obtain ⟨k1, k2, k3⟩ := key
            have hc1' := (k1 (ad1.add i) (by rw [add_block]; omega)).trans hc1'
            have hc2' := (k1 (ad2.add k) (by rw [add_block]; omega)).trans hc2'
            have HB1 : Hid (Below G w (wr.setCell ⟨R, k, none⟩ (.int .i64 vm)).drew) := below_drewN (HWI.out.setCell (by show G ≤ R; omega) _) 1
            have HST : Hid (GridIn 24 3 a b G c (d + 1) ((wr.setCell ⟨R, k, none⟩ (.int .i64 vm)).drew)) := HST.out.heap rfl
            clear k1 k2 k3
            generalize (wr.setCell ⟨R, k, none⟩ (.int .i64 vm)).drew = ws at *
            clear hv1 hv2 hv3 hv4 hR0 hR1 hfr
            go_wp2
            go_quiet (fail)
            go_wp2
            go_roundw
            case rel => exact ⟨d + 1, by omega, by have := HK.out; congr 1; omega, HST.out.heap rfl, below_drewN HB1.out _⟩
            case measure => simp [intOf] <;> omega
        · have hstop : (d = m) ∨ (d < m ∧ i = n) := by omega
          have HGU : Hid (Grid 24 3 a b G (c + 1) wr) := by
            refine GridIn.up ?_
            have hg := HGI.out
            have hi := HI.out
            have hn := HN.out
            have hm := HM.out
            rcases hstop with h | ⟨_, h⟩
            · rw [← hm] at h; rw [h] at hg; exact hg
            · exact ⟨hg.top, hg.row, by rw [← valsP_last a b _ d (by omega)]; exact hg.now, hg.size⟩
          have hnext : Hid (Value.int .i64 ((i : Int) - 1) = .int .i64 ((n : Int) - ((c + 1 : Nat) : Int))) := by
            have := HI.out
            show _ = _
            congr 1; omega
          clear HGI
          rcases hstop with h | ⟨h0, h⟩
          · have hneg : ((m : Int) - 1 - (d : Int)) = -1 := by omega
            rw [hneg]
            clear hneg h
            go_wp2
            go_roundw
            case rel => exact ⟨c + 1, by omega, hnext.out, HGU, HWI⟩
            case measure => simp [intOf] <;> omega
          · have hk0 : (0 : Int) ≤ (m : Int) - 1 - (d : Int) := by omega
            have hie : ¬ (i : Int) < (n : Int) := by omega
            generalize (m : Int) - 1 - (d : Int) = kk at *
            clear h
            go_wp2
            go_roundw
            case rel => exact ⟨c + 1, by omega, hnext.out, HGU, HWI⟩
            case measure => simp [intOf] <;> omega
    · obtain rfl : c = n + 1 := by omega
      rw [show ((n : Int) - ((n + 1 : Nat) : Int)) = -1 by omega]
      have hfin : Hid (StayPost a b w (.returned (.slice (some ⟨G, 0, none⟩) (n + 1) (n + 1))) wr) := by
        have hg := HGR.out
        rw [← HN.out] at hg
        have := hg.read (by rw [HN.out]; exact l1) (by rw [HM.out]; exact l2)
        rw [HN.out] at this
        exact ⟨_, rfl, this, by rw [HG.out]; exact HW.out⟩
      go_wp2
      go_ret
      exact hfin.out
end Go.Proofs.Ytofahmdjhpbecaa
