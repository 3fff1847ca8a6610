/-
  The law 'AlikeClustersHoldAll' walked: it returns true.
-/
import Derived.Test.YtllbklnljmgppaaAClus
import Derived.Test.YtllbklnljmgppaaSameN
import Derived.Test.YtllbklnljmgppaaHoldP
import Derived.Test.YtllbklnljmgppaaContA
import Derived.Test.YtllbklnljmgppaaClusT
import Derived.Deep.RegionHeld
import Derived.Deep.QuietTactic
import Derived.BigQuiet
namespace Go.Proofs.Ytllbklnljmgppaa
open Go.RowKit
set_option linter.unusedVariables false
set_option linter.unusedSimpArgs false

theorem ask_good {ls : List (List UInt8)} {m : Nat} (h : ∀ t ∈ ls, t.length ≤ 20000) (hn : isSh (m : Int) = true) (i k : Nat) (hi : i < ls.length) (hk : k < ls.length) :
    askF ls[i] ls[k] (m : Int) = 0 ∧ qRes ls[i] ls[k] (m : Int) = resQ ((shs ls (m : Int)).getD i []) ((shs ls (m : Int)).getD k []) ∧ (qRes ls[i] ls[k] (m : Int)).1 ≤ 40002 ∧ (qRes ls[i] ls[k] (m : Int)).2 ≤ 40002 := by
  have h1 := h _ (List.getElem_mem hi)
  have h2 := h _ (List.getElem_mem hk)
  have ha : askF ls[i] ls[k] (m : Int) = 0 := by
    unfold askF
    rw [if_pos (show txB ls[i] ls[k] = true from decide_eq_true ⟨h1, h2⟩), if_pos hn]
  have hq : qRes ls[i] ls[k] (m : Int) = resQ ((shs ls (m : Int)).getD i []) ((shs ls (m : Int)).getD k []) := by
    unfold qRes
    rw [if_pos ha, shs_at hi, shs_at hk]
  have hs := resQ_small (shs_len h hn i) (shs_len h hn k)
  exact ⟨ha, hq, by rw [hq]; exact hs.1, by rw [hq]; exact hs.2⟩
set_option maxRecDepth 100000 in
set_option maxHeartbeats 40000000 in
theorem holdLaw_any (v0 : Value) (l : List ByteArray) (v1 : Value) (n : Int) (cs2 : Array Value) (p : Int × Int) (w : World) (h0 : (Rp.sl Rp.str).ok w (· < w.heap.size) [v0] l) (f0 : (Rp.sl Rp.str).fits l)
    (h1 : (Rp.int .i64).ok w (· < w.heap.size) [v1] n) (f1 : (Rp.int .i64).fits n) (h2 : ratRp.ok w (· < w.heap.size) cs2.toList p) (f2 : ratRp.fits p) :
    Calls Try.prog 8 #[v0, v1, .agg cs2] w fun e w' => e = .returned (.bool true) ∧ Below w.heap.size w w' := by
  obtain rfl := rat_open h2
  obtain ⟨num, den⟩ := p
  obtain ⟨e1, z1⟩ := h1
  injection e1 with e1
  subst e1
  obtain ⟨ls, rfl⟩ : ∃ ls : List (List UInt8), l = ls.map bstr := ⟨_, (strs_back l).symm⟩
  clear f0 f1 f2 z1 h2
  obtain ⟨A, c, rfl, hlc, hc, _⟩ := Rp.sl_open h0
  unfold maxLen at hc
  have HL : Hid ((ls.map bstr).length = ls.length) := Lib.hid (by rw [List.length_map])
  rw [HL.out] at hlc h0
  rw [HL.out]
  have HK0 : Hid (Blk (w.alloc (.cells #[.int .i64 num, .int .i64 den] 37)) w.heap.size 37 [.int .i64 num, .int .i64 den]) := Lib.hid (Blk.new w _ _)
  have hal : Below w.heap.size w (w.alloc (.cells #[.int .i64 num, .int .i64 den] 37)) := (Below.refl _ _).alloc (Nat.le_refl _) _
  have HA := Lib.hid hal
  have H0 := Lib.hid (Rp.ext _ h0 hal)
  clear hal h0
  have c0 : _ = some (Value.int .i64 num) := HK0.out.cell 0
  have c1 : _ = some (Value.int .i64 den) := HK0.out.cell 1
  go_enter Try.func8, Try.ntmps8
  go_wp2_with fail
  clear c0 c1
  generalize w.alloc (.cells #[.int .i64 num, .int .i64 den] 37) = w0 at *
  have hcl := clus_any (.slice A ls.length c) ls n num den w0 H0.out
  refine hcl.mono ?_
  clear hcl
  rintro e w1 ⟨v, rfl, hn, hb⟩
  have HB1 := Lib.hid (below_trans2 HA.out hb HA.out.size)
  have HK1 := Lib.hid (HK0.out.same (same_below hb) HK0.out.lt)
  have H1 := Lib.hid (Rp.ext _ H0.out hb)
  have HX1 := Lib.hid (nat_read hn clO_small)
  clear hb HA HK0 H0
  by_cases hF : clF ls n num den = 0
  case neg =>
    rw [clO_none hF] at hn
    obtain ⟨A9, c9, rfl, _, _⟩ := hn.form
    obtain ⟨f, hf⟩ : ∃ f, clF ls n num den = f := ⟨_, rfl⟩
    rw [hf] at hF ⊢
    have hff : (f != 0) = true := by simpa using hF
    clear hF hf hn HX1 H1 HK1
    go_wp2_with fail
    refine (awake_any _).mono ?_
    rintro e w4 ⟨rfl, hb4⟩
    have HB4 := Lib.hid (below_trans2 HB1.out hb4 HB1.out.size)
    clear hb4
    go_wp2
    go_ret
    exact ⟨rfl, HB4.out⟩
  clear hn
  obtain ⟨g1, g2, g3, ⟨b2, b4⟩, b3, b5⟩ := clF_good hF
  have g4 : 1 ≤ n ∧ n ≤ 10 := of_decide_eq_true g3
  obtain ⟨m, rfl⟩ := Int.eq_ofNat_of_zero_le (show 0 ≤ n by omega)
  obtain ⟨N, rfl⟩ := Int.eq_ofNat_of_zero_le (show 0 ≤ num by omega)
  obtain ⟨D, rfl⟩ := Int.eq_ofNat_of_zero_le (show 0 ≤ den by omega)
  have hco := clO_outs hF
  rw [Int.toNat_natCast, Int.toNat_natCast] at hco
  have HAF := Lib.hid (ask_good (ls := ls) (m := m) g1 g3)
  rw [hF]
  obtain ⟨L, hL⟩ : ∃ L, ls.length = L := ⟨_, rfl⟩
  rw [hL] at hlc H1 g2 hco ⊢
  have HLL := Lib.hid hL
  have T := two_all (alS N D (shs ls (m : Int))) L L (Nat.le_refl _)
  have HLK : Hid (∀ i k, k < i → i < L → alS N D (shs ls (m : Int)) i k = true → (gA (alS N D (shs ls (m : Int))) L L).getD i 0 = (gA (alS N D (shs ls (m : Int))) L L).getD k 0) := Lib.hid (fun i k hk hi h => like_one h hk hi)
  rw [hco] at HX1
  generalize shs ls (m : Int) = S at *
  generalize gA (alS N D S) L L = G at *
  have HTT := Lib.hid T
  obtain ⟨P, hP⟩ : ∃ P, outsA G L = P := ⟨_, rfl⟩
  have HPM : Hid (∀ p k, k ∈ P.getD p [] → k < L) := Lib.hid (fun p k h => by rw [← hP] at h; exact (grp_mem T h).1)
  have HPF : Hid (P.flatten.length = L) := Lib.hid (by rw [← hP]; exact flat_len_all T)
  have HCE : Hid (∀ k, k < L → (asg P L P.length).getD k 0 = pos G (G.getD k 0)) := Lib.hid (fun k hk => by rw [← hP]; exact asg_end T hk)
  rw [hP] at HX1
  obtain ⟨A1, c1, rfl, hlc1, hc1, _⟩ := Rp.sl_open HX1.out
  unfold maxLen at hc1
  have HCS : Hid (∀ i k, k < i → i < L → alS N D S i k = true → (asg P L P.length).getD i 0 = (asg P L P.length).getD k 0) := Lib.hid (fun i k hk hi h => by
    rw [HCE.out i hi, HCE.out k (by omega), HLK.out i k hk hi h])
  clear hL hco T hP g1 g3 g4 hF HLK HTT HCE
  have hmk := fun w => run_make1R (P := Try.prog) w 47 3 (.int .i64 0) 8 Try.underlying47 (by kernel_rfl) rfl L (by omega) (by omega)
  have HG0 : Hid (Blk (w1.alloc (.cells (List.replicate L (.int .i64 0)).toArray 3)) w1.heap.size 3 ((asg P L 0).map natV)) := Lib.hid (by
    have h := Blk.new w1 3 (List.replicate L (.int .i64 0))
    simpa [asg, natV] using h)
  have HGR : Hid (w1.grownBy (w1.alloc (.cells (List.replicate L (.int .i64 0)).toArray 3)) (some w1.heap.size)) := Lib.hid (World.grownBy_alloc _ _ _)
  go_wp2_with fail
  obtain ⟨gb, hgb⟩ : ∃ gb, gb = w1.heap.size := ⟨_, rfl⟩
  rw [← hgb] at HG0 HGR ⊢
  have HGB := Lib.hid hgb
  clear hgb hmk
  go_loopw [10, 39] (fun vm vp wr => ∃ p : Nat, p ≤ P.length ∧ vp = .int .i64 p ∧ vm = .int .i64 (cntTo P p : Nat) ∧ Hid (Blk wr gb 3 ((asg P L p).map natV)) ∧ Hid (w1.grownBy wr (some gb))) (fun _ vp _ => P.length - (intOf vp).toNat)
  case atStart => exact ⟨0, Nat.zero_le _, rfl, rfl, HG0, HGR⟩
  case round =>
    clear HG0 HGR
    obtain ⟨p, hp, rfl, rfl, HC, HG⟩ := hrel
    by_cases hpl : p < P.length
    · obtain ⟨ad1, u1, rfl, hab, hu1, hcell0⟩ := Rp.sl_at1 rfl HX1.out hpl
      have KEEP1 : Hid (∀ wr : World, w1.grownBy wr (some gb) → Same (· < w1.heap.size) w1 wr) := Lib.hid (fun wr hg g hgl => hg.block g hgl (fun e => by have e := Option.some.inj e; have := HGB.out; omega))
      have hcell1 := (((KEEP1.out _ HG.out).cell (a := ad1.add p) (by rw [add_block]; exact hab)).trans hcell0)
      obtain ⟨A3, c3, rfl, hlc3, hc3, _⟩ := Rp.sl_open (show (Rp.sl (Rp.int .i64)).ok w1 (· < w1.heap.size) [u1] (toI P[p]) from hu1)
      have hu1 : (Rp.sl (Rp.int .i64)).ok w1 (· < w1.heap.size) [.slice A3 (toI P[p]).length c3] (toI P[p]) := hu1
      clear hcell0 hab
      obtain ⟨row, hrow⟩ : ∃ row, P.getD p [] = row := ⟨_, rfl⟩
      have hpr : P[p] = row := by rw [← hrow, List.getD_eq_getElem?_getD, List.getElem?_eq_getElem hpl]; rfl
      have htl : (toI P[p]).length = row.length := by rw [hpr]; unfold toI; rw [List.length_map]
      rw [hpr] at hu1
      have HU1 := Lib.hid hu1
      rw [htl] at hcell1 hlc3
      rw [show (toI row).length = row.length from by unfold toI; rw [List.length_map]] at HU1
      have HROW := Lib.hid hrow
      have hcl := cntTo_le hpl
      rw [HPF.out, hrow] at hcl
      have HCN := Lib.hid (cntTo_succ hpl)
      unfold maxLen at hc3
      clear hu1 hpr htl hrow
      generalize cntTo P p = cn at *
      obtain ⟨wo, rfl⟩ : ∃ wo, wo = wr := ⟨_, rfl⟩
      go_wp2_with fail
      go_loopw [10, 46] (fun vm vj wq => ∃ j : Nat, j ≤ row.length ∧ vj = .int .i64 j ∧ vm = .int .i64 (cn + j : Nat) ∧ Hid (Blk wq gb 3 ((setAll (asg P L p) p (row.take j)).map natV)) ∧ Hid (w1.grownBy wq (some gb))) (fun _ vj _ => row.length - (intOf vj).toNat)
      case atStart => exact ⟨0, Nat.zero_le _, rfl, rfl, HC, HG⟩
      case round =>
        clear HC HG hcell1
        obtain ⟨j, hj, rfl, rfl, HC, HG⟩ := hrel
        by_cases hjl : j < row.length
        · obtain ⟨ad3, u2, rfl, _, hu2, hcell2⟩ := Rp.sl_at1 rfl ((Rp.sl (Rp.int .i64)).keep HU1.out (KEEP1.out _ HG.out) (fun _ h => h)) (k := j) (by unfold toI; rw [List.length_map]; exact hjl)
          obtain ⟨hu2, _⟩ := hu2
          injection hu2 with hu2
          have hz : (toI row)[j]'(by unfold toI; rw [List.length_map]; exact hjl) = ((row[j] : Nat) : Int) := by unfold toI; rw [List.getElem_map]
          rw [hz] at hu2
          subst hu2
          have hkL := HPM.out p row[j] (by rw [HROW.out]; exact List.getElem_mem hjl)
          have hts := List.take_succ_eq_append_getElem hjl
          obtain ⟨k, hk⟩ : ∃ k, row[j] = k := ⟨_, rfl⟩
          rw [hk] at hcell2 hkL hts
          clear hz hk
          have HC3 : Hid (Blk (wr.setCell ⟨gb, k, none⟩ (.int .i64 (p : Nat))) gb 3 ((setAll (asg P L p) p (row.take (j + 1))).map natV)) := Lib.hid (by
            rw [hts, setAll_snoc, List.map_set]; exact HC.out.set_ k _)
          have HG3 : Hid (w1.grownBy (wr.setCell ⟨gb, k, none⟩ (.int .i64 (p : Nat))) (some gb)) := Lib.hid (HG.out.trans ⟨rfl, rfl, rfl, by simp, fun k _ hk => heap_setCell_other wr _ k _ (fun e => hk (by rw [e]))⟩)
          obtain ⟨u, hu⟩ : ∃ u, wr.cell? ⟨gb, k, none⟩ = some u := by
            rw [HC.out.cell]
            exact ⟨_, List.getElem?_eq_getElem (by rw [List.length_map, setAll_len, asg_len]; exact hkL)⟩
          have hf := HC.out.frozen k
          have k0 : ¬ ((k : Int) < 0) := by omega
          have k1 : (k : Int) < (L : Int) := by omega
          have k2 : ¬ ((L : Int) ≤ (k : Int)) := by omega
          clear hts HC HG
          go_wp2_with fail
          go_roundw
          case rel => exact ⟨j + 1, by omega, by go_num, by go_num, HC3, HG3⟩
          case measure => simp [intOf]; omega
        · obtain rfl : j = row.length := by omega
          have HC3 : Hid (Blk wr gb 3 ((asg P L (p + 1)).map natV)) := Lib.hid (by
            have h := HC.out
            rw [List.take_length] at h
            show Blk wr gb 3 ((setAll (asg P L p) p (P.getD p [])).map natV)
            rw [HROW.out]; exact h)
          have hcs : cn + row.length = cntTo P (p + 1) := by rw [HCN.out, HROW.out]
          rw [hcs]
          clear HC hcs
          go_wp2_with fail
          go_roundw
          case rel => exact ⟨p + 1, by omega, by go_num, rfl, HC3, HG⟩
          case measure => simp [intOf]; omega
    · obtain rfl : p = P.length := by omega
      have hcn : cntTo P P.length = L := by unfold cntTo; rw [List.take_length]; exact HPF.out
      rw [hcn]
      have hLL : ((L : Int) != (L : Int)) = false := by simp
      have HBG := Lib.hid (HB1.out.grown HG.out HB1.out.size (fun g e => by have e := Option.some.inj e; have := HGB.out; have := HB1.out.size; omega))
      have HWG := Lib.hid ((Rp.sl Rp.str).keep H1.out (S' := (· < wr.heap.size)) (fun g hg => HG.out.block g hg (fun e => by have e := Option.some.inj e; have := HGB.out; omega)) (fun g hg => Nat.lt_of_lt_of_le hg HG.out.size))
      have HKG0 := Lib.hid (HK1.out.same (S := fun g => g < w1.heap.size) (fun g hg => HG.out.block g hg (fun e => by have e := Option.some.inj e; have := HGB.out; omega)) HK1.out.lt)
      clear hcn hpl hp
      go_wp2_with fail
      refine (awake_any _).mono ?_
      rintro e wA ⟨rfl, hbA⟩
      have HBA := Lib.hid (below_trans2 HBG.out hbA HBG.out.size)
      have HWA := Lib.hid (Rp.ext _ HWG.out hbA)
      have HKB := Lib.hid (HKG0.out.same (same_below hbA) HKG0.out.lt)
      have HKG := Lib.hid (HC.out.same (same_below hbA) HC.out.lt)
      have HCL : Hid ((asg P L P.length).length = L) := Lib.hid (asg_len _ _ _)
      clear hbA HBG HWG HKG0 HC HG H1 HK1 HX1 HB1 HPM HPF hLL
      generalize asg P L P.length = C at *
      go_wp2_with fail
      go_loopw [76] (fun vi wr => ∃ i : Nat, i ≤ L ∧ vi = .int .i64 i ∧ Hid (Below wA.heap.size wA wr)) (fun vi _ => L - (intOf vi).toNat)
      case atStart => exact ⟨0, Nat.zero_le _, rfl, Below.refl _ _⟩
      case round =>
        obtain ⟨i, hi, rfl, HBI⟩ := hrel
        by_cases hiL : i < L
        · go_wp2_with fail
          go_loopw [80] (fun vk wr => ∃ k : Nat, k ≤ i ∧ vk = .int .i64 k ∧ Hid (Below wA.heap.size wA wr)) (fun vk _ => i - (intOf vk).toNat)
          case atStart => exact ⟨0, Nat.zero_le _, rfl, HBI⟩
          case round =>
            clear HBI
            obtain ⟨k, hk, rfl, HBR⟩ := hrel
            by_cases hki : k < i
            · have hwI := Rp.below _ HWA.out HBR.out
              obtain ⟨ad, u1, rfl, hb1, hu1, hcell1⟩ := Rp.sl_at1 rfl hwI (k := i) (by rw [HL.out, HLL.out]; exact hiL)
              obtain ⟨ad2, u2, had, hb2, hu2, hcell2⟩ := Rp.sl_at1 rfl hwI (k := k) (by rw [HL.out, HLL.out]; omega)
              injection had with had
              subst had
              obtain ⟨hu1, hz1⟩ := hu1
              injection hu1 with hu1
              rw [List.getElem_map] at hu1 hz1
              subst hu1
              obtain ⟨hu2, hz2⟩ := hu2
              injection hu2 with hu2
              rw [List.getElem_map] at hu2 hz2
              subst hu2
              rw [bstr_size] at hz1 hz2
              have hfa := HAF.out i k (by rw [HLL.out]; exact hiL) (by rw [HLL.out]; omega)
              obtain ⟨hA, hQ, hx1, hy1⟩ := hfa
              generalize ls[i]'_ = ta at *
              generalize ls[k]'_ = tb at *
              obtain ⟨x, y, hxy⟩ : ∃ x y : Nat, qRes ta tb (m : Int) = (x, y) := ⟨_, _, rfl⟩
              rw [hxy] at hQ hx1 hy1
              have hx1 : x ≤ 40002 := hx1
              have hy1 : y ≤ 40002 := hy1
              have HFA := Lib.hid hA
              have HXY := Lib.hid hxy
              have HAL : Hid (alS N D S i k = decide (N * y ≤ x * D)) := Lib.hid (by unfold alS alB; rw [← hQ])
              clear hA hQ hxy
              have hlt1 : ad.block < wr.heap.size := by have h := World.block_lt_of_cell? wr _ hcell1; rwa [add_block] at h
              have KEEP : Hid (∀ w', Below wr.heap.size wr w' → w'.cell? (ad.add i) = some (.string (bstr ta)) ∧ w'.cell? (ad.add k) = some (.string (bstr tb))) := Lib.hid (fun w' hb => ⟨((same_below hb).cell (by rw [add_block]; exact hlt1)).trans hcell1, ((same_below hb).cell (by rw [add_block]; exact hlt1)).trans hcell2⟩)
              have m1 : x * D ≤ 40002 * 1000000 := Nat.mul_le_mul hx1 (by omega)
              have m2 : N * y ≤ 1000000 * 40002 := Nat.mul_le_mul (by omega) hy1
              have i1 : IntKind.i64.wrap ((x : Int) * (D : Int)) = (x : Int) * (D : Int) := IntWalk.i64_in _ (by rw [← Int.natCast_mul]; omega)
              have i2 : IntKind.i64.wrap ((N : Int) * (y : Int)) = (N : Int) * (y : Int) := IntWalk.i64_in _ (by rw [← Int.natCast_mul]; omega)
              clear hcell1 hcell2 hlt1 hb1 hb2 m1 m2 hwI
              have hilI : (i : Int) < (L : Int) := by omega
              have hklI : (k : Int) < (L : Int) := by omega
              go_wp2_with fail
              refine wp_region_held_drew (S := fun w' => w'.cell? (ad.add i) = some (.string (bstr ta)) ∧ w'.cell? (ad.add k) = some (.string (bstr tb))) (by kernel_rfl) (KEEP.out _ (Below.drew (Below.refl _ _))) (fun hHeld => ?_)
              obtain ⟨wq, hwq⟩ : ∃ wq, wq = World.drew wr := ⟨_, rfl⟩
              have HG0 : Hid (Below wr.heap.size wr wq) := Lib.hid (by rw [hwq]; exact Below.drew (Below.refl _ _))
              rw [← hwq] at hHeld ⊢
              clear hwq
              refine wpAnyH_take (i := 0) (v := ?_) rfl (by kernel_rfl) (by kernel_rfl) (by kernel_rfl) (fun _ _ _ h => h) (Or.inl ⟨by rfl, ?_⟩) (by assumption) ?_
              rotate_left
              · (intro w hSw; (try dsimp only at hSw); go_simp; try with_reducible rfl)
              try simp only [List.getElem_toArray, List.getElem_cons_succ, List.getElem_cons_zero, Act.put, List.setIfInBounds_toArray, List.set_cons_zero, List.set_cons_succ]
              refine wpAnyH_take (i := 1) (v := ?_) rfl (by kernel_rfl) (by kernel_rfl) (by kernel_rfl) (fun _ _ _ h => h) (Or.inl ⟨by rfl, ?_⟩) (by assumption) ?_
              rotate_left
              · (intro w hSw; (try dsimp only at hSw); go_simp; try with_reducible rfl)
              try simp only [List.getElem_toArray, List.getElem_cons_succ, List.getElem_cons_zero, Act.put, List.setIfInBounds_toArray, List.set_cons_zero, List.set_cons_succ]
              refine wpAnyH_take (i := 2) (v := ?_) rfl (by kernel_rfl) (by kernel_rfl) (by kernel_rfl) (fun _ _ _ h => h) (Or.inl ⟨by rfl, ?_⟩) (by assumption) ?_
              rotate_left
              · (intro w hSw; (try dsimp only at hSw); go_simp; try with_reducible rfl)
              try simp only [List.getElem_toArray, List.getElem_cons_succ, List.getElem_cons_zero, Act.put, List.setIfInBounds_toArray, List.set_cons_zero, List.set_cons_succ]
              refine wpAnyH_take (i := 3) (v := ?_) rfl (by kernel_rfl) (by kernel_rfl) (by kernel_rfl) (fun _ _ _ h => h) (Or.inl ⟨by rfl, ?_⟩) (by assumption) ?_
              rotate_left
              · (intro w hSw; (try dsimp only at hSw); go_simp; try with_reducible rfl)
              try simp only [List.getElem_toArray, List.getElem_cons_succ, List.getElem_cons_zero, Act.put, List.setIfInBounds_toArray, List.set_cons_zero, List.set_cons_succ]
              refine wpAnyH_take (i := 4) (v := ?_) rfl (by kernel_rfl) (by kernel_rfl) (by kernel_rfl) (fun _ _ _ h => h) (Or.inl ⟨by rfl, ?_⟩) (by assumption) ?_
              rotate_left
              · (intro w hSw; (try dsimp only at hSw); go_simp; try with_reducible rfl)
              try simp only [List.getElem_toArray, List.getElem_cons_succ, List.getElem_cons_zero, Act.put, List.setIfInBounds_toArray, List.set_cons_zero, List.set_cons_succ]
              refine wpAnyH_take (i := 5) (v := ?_) rfl (by kernel_rfl) (by kernel_rfl) (by kernel_rfl) (fun _ _ _ h => h) (Or.inl ⟨by rfl, ?_⟩) (by assumption) ?_
              rotate_left
              · (intro w hSw; (try dsimp only at hSw); go_simp; try with_reducible rfl)
              try simp only [List.getElem_toArray, List.getElem_cons_succ, List.getElem_cons_zero, Act.put, List.setIfInBounds_toArray, List.set_cons_zero, List.set_cons_succ]
              refine wpAnyH_take (i := 6) (v := ?_) rfl (by kernel_rfl) (by kernel_rfl) (by kernel_rfl) (fun _ _ _ h => h) (Or.inl ⟨by rfl, ?_⟩) (by assumption) ?_
              rotate_left
              · (intro w hSw; (try dsimp only at hSw); go_simp; try with_reducible rfl)
              try simp only [List.getElem_toArray, List.getElem_cons_succ, List.getElem_cons_zero, Act.put, List.setIfInBounds_toArray, List.set_cons_zero, List.set_cons_succ]
              refine wpAnyH_take (i := 7) (v := ?_) rfl (by kernel_rfl) (by kernel_rfl) (by kernel_rfl) (fun _ _ _ h => h) (Or.inl ⟨by rfl, ?_⟩) (by assumption) ?_
              rotate_left
              · (intro w hSw; (try dsimp only at hSw); go_simp; try with_reducible rfl)
              try simp only [List.getElem_toArray, List.getElem_cons_succ, List.getElem_cons_zero, Act.put, List.setIfInBounds_toArray, List.set_cons_zero, List.set_cons_succ]
              refine wpAnyH_take (i := 8) (v := ?_) rfl (by kernel_rfl) (by kernel_rfl) (by kernel_rfl) (fun _ _ _ h => h) (Or.inl ⟨by rfl, ?_⟩) (by assumption) ?_
              rotate_left
              · (intro w hSw; (try dsimp only at hSw); go_simp; try with_reducible rfl)
              try simp only [List.getElem_toArray, List.getElem_cons_succ, List.getElem_cons_zero, Act.put, List.setIfInBounds_toArray, List.set_cons_zero, List.set_cons_succ]
              refine wpAnyH_ready (rs := [9, 13]) (by kernel_rfl) (by simp) ?_
              refine AllReadyH.cons rfl (fun K hK => ?_) (AllReadyH.cons rfl (fun K hK => ?_) AllReadyH.nil)
              · rw [if_pos (by rfl)]
                simp only [List.getElem_toArray, List.getElem_cons_succ, List.getElem_cons_zero]
                go_simp
                go_at_call 18
                refine (resA_any ta tb (m : Int) wq hz1 hz2).mono ?_
                rintro e w5 ⟨rfl, hb5⟩
                rw [HXY.out, HFA.out, show pairV (x, y) = .agg #[.int .i64 (x : Nat), .int .i64 (y : Nat)] from rfl]
                have HB5 := Lib.hid (HG0.out.trans (hb5.mono HG0.out.size))
                clear hb5
                show K _ w5
                refine hK.out _ _ (KEEP.out _ HB5.out) (fun hHeld => ?_)
                clear hK K
                try simp only [List.getElem_toArray, List.getElem_cons_succ, List.getElem_cons_zero, Act.put, List.setIfInBounds_toArray, List.set_cons_zero, List.set_cons_succ]
                refine wpAnyH_take (i := 10) (v := ?_) rfl (by kernel_rfl) (by kernel_rfl) (by kernel_rfl) (fun _ _ _ h => h) (Or.inl ⟨by rfl, ?_⟩) (by assumption) ?_
                rotate_left
                · (intro w hSw; (try dsimp only at hSw); go_simp; try with_reducible rfl)
                try simp only [List.getElem_toArray, List.getElem_cons_succ, List.getElem_cons_zero, Act.put, List.setIfInBounds_toArray, List.set_cons_zero, List.set_cons_succ]
                refine wpAnyH_take (i := 11) (v := ?_) rfl (by kernel_rfl) (by kernel_rfl) (by kernel_rfl) (fun _ _ _ h => h) (Or.inl ⟨by rfl, ?_⟩) (by assumption) ?_
                rotate_left
                · (intro w hSw; (try dsimp only at hSw); go_simp; try with_reducible rfl)
                try simp only [List.getElem_toArray, List.getElem_cons_succ, List.getElem_cons_zero, Act.put, List.setIfInBounds_toArray, List.set_cons_zero, List.set_cons_succ]
                refine wpAnyH_take (i := 12) (v := ?_) rfl (by kernel_rfl) (by kernel_rfl) (by kernel_rfl) (fun _ _ _ h => h) (Or.inl ⟨by rfl, ?_⟩) (by assumption) ?_
                rotate_left
                · (intro w hSw; (try dsimp only at hSw); go_simp; try with_reducible rfl)
                try simp only [List.getElem_toArray, List.getElem_cons_succ, List.getElem_cons_zero, Act.put, List.setIfInBounds_toArray, List.set_cons_zero, List.set_cons_succ]
                refine wpAnyH_ready (rs := [13]) (by kernel_rfl) (by simp) ?_
                refine AllReadyH.cons rfl (fun K hK => ?_) AllReadyH.nil
                rw [if_pos (by rfl)]
                simp only [List.getElem_toArray, List.getElem_cons_succ, List.getElem_cons_zero]
                go_simp
                refine hK.out _ _ (KEEP.out _ (HB5.out.alloc HB5.out.size _)) (fun hHeld => ?_)
                clear hK K
                try simp only [List.getElem_toArray, List.getElem_cons_succ, List.getElem_cons_zero, Act.put, List.setIfInBounds_toArray, List.set_cons_zero, List.set_cons_succ]
                refine wpAnyH_ready (rs := [14]) (by kernel_rfl) (by simp) ?_
                refine AllReadyH.cons rfl (fun K hK => ?_) AllReadyH.nil
                rw [if_pos (by rfl)]
                simp only [List.getElem_toArray, List.getElem_cons_succ, List.getElem_cons_zero]
                go_simp
                refine hK.out _ _ (KEEP.out _ (HB5.out.alloc HB5.out.size _)) (fun hHeld => ?_)
                clear hK K
                try simp only [List.getElem_toArray, List.getElem_cons_succ, List.getElem_cons_zero, Act.put, List.setIfInBounds_toArray, List.set_cons_zero, List.set_cons_succ]
                refine wpAnyH_take (i := 15) (v := ?_) rfl (by kernel_rfl) (by kernel_rfl) (by kernel_rfl) (fun _ _ _ h => h) (Or.inl ⟨by rfl, ?_⟩) (by assumption) ?_
                rotate_left
                · (intro w hSw; (try dsimp only at hSw); go_simp; try with_reducible rfl)
                try simp only [List.getElem_toArray, List.getElem_cons_succ, List.getElem_cons_zero, Act.put, List.setIfInBounds_toArray, List.set_cons_zero, List.set_cons_succ]
                refine wpAnyH_done (by kernel_rfl) ?_ _
                clear hHeld
                have HBZ := Lib.hid (HBR.out.trans ((HB5.out.alloc HB5.out.size (.cells #[.int .i64 x, .int .i64 y] 37)).mono HBR.out.size))
                have HRZ := Lib.hid (Blk.new w5 37 [.int .i64 (x : Nat), .int .i64 (y : Nat)])
                clear HB5 KEEP HG0
                generalize w5.alloc (.cells #[.int .i64 x, .int .i64 y] 37) = wz at *
                generalize w5.heap.size = rb at *
                have hkg := HKG.out.same (same_below HBZ.out) HKG.out.lt
                have hkb := HKB.out.same (same_below HBZ.out) HKB.out.lt
                have hrl : _ = some (Value.int .i64 N) := hkb.cell 0
                have hrd : _ = some (Value.int .i64 D) := hkb.cell 1
                have r0 : _ = some (Value.int .i64 x) := HRZ.out.cell 0
                have r1 : _ = some (Value.int .i64 y) := HRZ.out.cell 1
                have g_i : wz.cell? ⟨gb, i, none⟩ = some (.int .i64 ((C.getD i 0 : Nat) : Int)) := by
                  rw [hkg.cell]; simp [natV, List.getD_eq_getElem?_getD, show i < C.length from by rw [HCL.out]; exact hiL]
                have g_k : wz.cell? ⟨gb, k, none⟩ = some (.int .i64 ((C.getD k 0 : Nat) : Int)) := by
                  rw [hkg.cell]; simp [natV, List.getD_eq_getElem?_getD, show k < C.length from by rw [HCL.out]; omega]
                have HCC : Hid (alS N D S i k = true → C.getD i 0 = C.getD k 0) := Lib.hid (HCS.out i k hki hiL)
                clear hkg hkb
                generalize C.getD i 0 = p at *
                generalize C.getD k 0 = q at *
                by_cases hpq : p = q
                · have hd : ((p : Int) != (q : Int)) = false := by rw [hpq]; simp
                  clear hpq HCC
                  go_wp2_with fail
                  go_quiet (fail)
                  have HBD := Lib.hid (below_drewN HBZ.out nq)
                  clear HBZ HRZ r0 r1 hrl hrd g_i g_k
                  generalize wz.drewN nq = wd at *
                  go_wp2_with fail
                  go_roundw
                  case rel => exact ⟨k + 1, by omega, by go_num, HBD⟩
                  case measure => simp [intOf]; omega
                · have hd : ((p : Int) != (q : Int)) = true := by rw [bne_iff_ne]; omega
                  have hnl : ¬ N * y ≤ x * D := fun h => hpq (HCC.out (by rw [HAL.out]; exact decide_eq_true h))
                  have hd2 : decide ((N : Int) * (y : Int) ≤ (x : Int) * (D : Int)) = false := decide_eq_false (by rw [← Int.natCast_mul, ← Int.natCast_mul]; omega)
                  clear hpq HCC hnl
                  go_wp2_with fail
                  go_quiet (fail)
                  have HBD := Lib.hid (below_drewN HBZ.out nq)
                  clear HBZ HRZ r0 r1 hrl hrd g_i g_k
                  generalize wz.drewN nq = wd at *
                  go_wp2_with fail
                  go_roundw
                  case rel => exact ⟨k + 1, by omega, by go_num, HBD⟩
                  case measure => simp [intOf]; omega
              · rw [if_pos (by rfl)]
                simp only [List.getElem_toArray, List.getElem_cons_succ, List.getElem_cons_zero]
                go_simp
                have HBA := Lib.hid (HG0.out.alloc HG0.out.size (.cells #[.int .i64 0, .int .i64 0] 37))
                refine hK.out _ _ (KEEP.out _ HBA.out) (fun hHeld => ?_)
                clear hK K
                try simp only [List.getElem_toArray, List.getElem_cons_succ, List.getElem_cons_zero, Act.put, List.setIfInBounds_toArray, List.set_cons_zero, List.set_cons_succ]
                have HRA := Lib.hid (Blk.new wq 37 [.int .i64 0, .int .i64 0])
                have hrb : wr.heap.size ≤ wq.heap.size := HG0.out.size
                generalize hwa : wq.alloc (.cells #[.int .i64 0, .int .i64 0] 37) = wa at *
                generalize wq.heap.size = rb at *
                clear hwa
                refine wpAnyH_ready (rs := [9]) (by kernel_rfl) (by simp) ?_
                refine AllReadyH.cons rfl (fun K hK => ?_) AllReadyH.nil
                rw [if_pos (by rfl)]
                simp only [List.getElem_toArray, List.getElem_cons_succ, List.getElem_cons_zero]
                go_simp
                go_at_call 18
                refine (resA_any ta tb (m : Int) wa hz1 hz2).mono ?_
                rintro e w5 ⟨rfl, hb5⟩
                rw [HXY.out, HFA.out, show pairV (x, y) = .agg #[.int .i64 (x : Nat), .int .i64 (y : Nat)] from rfl]
                have HB5 := Lib.hid (HBA.out.trans (hb5.mono HBA.out.size))
                have hr5 := HRA.out.same (same_below hb5) HRA.out.lt
                have c0 : _ = some (Value.int .i64 0) := hr5.cell 0
                have c1 : _ = some (Value.int .i64 0) := hr5.cell 1
                have y0 := hr5.frozen 0
                have y1 := hr5.frozen 1
                have HR5 := Lib.hid hr5
                clear hb5 hr5 HRA
                show K _ w5
                refine hK.out _ _ (KEEP.out _ HB5.out) (fun hHeld => ?_)
                clear hK K
                try simp only [List.getElem_toArray, List.getElem_cons_succ, List.getElem_cons_zero, Act.put, List.setIfInBounds_toArray, List.set_cons_zero, List.set_cons_succ]
                refine wpAnyH_take (i := 10) (v := ?_) rfl (by kernel_rfl) (by kernel_rfl) (by kernel_rfl) (fun _ _ _ h => h) (Or.inl ⟨by rfl, ?_⟩) (by assumption) ?_
                rotate_left
                · (intro w hSw; (try dsimp only at hSw); go_simp; try with_reducible rfl)
                try simp only [List.getElem_toArray, List.getElem_cons_succ, List.getElem_cons_zero, Act.put, List.setIfInBounds_toArray, List.set_cons_zero, List.set_cons_succ]
                refine wpAnyH_take (i := 11) (v := ?_) rfl (by kernel_rfl) (by kernel_rfl) (by kernel_rfl) (fun _ _ _ h => h) (Or.inl ⟨by rfl, ?_⟩) (by assumption) ?_
                rotate_left
                · (intro w hSw; (try dsimp only at hSw); go_simp; try with_reducible rfl)
                try simp only [List.getElem_toArray, List.getElem_cons_succ, List.getElem_cons_zero, Act.put, List.setIfInBounds_toArray, List.set_cons_zero, List.set_cons_succ]
                refine wpAnyH_take (i := 12) (v := ?_) rfl (by kernel_rfl) (by kernel_rfl) (by kernel_rfl) (fun _ _ _ h => h) (Or.inl ⟨by rfl, ?_⟩) (by assumption) ?_
                rotate_left
                · (intro w hSw; (try dsimp only at hSw); go_simp; try with_reducible rfl)
                try simp only [List.getElem_toArray, List.getElem_cons_succ, List.getElem_cons_zero, Act.put, List.setIfInBounds_toArray, List.set_cons_zero, List.set_cons_succ]
                refine wpAnyH_ready (rs := [14]) (by kernel_rfl) (by simp) ?_
                refine AllReadyH.cons rfl (fun K hK => ?_) AllReadyH.nil
                rw [if_pos (by rfl)]
                simp only [List.getElem_toArray, List.getElem_cons_succ, List.getElem_cons_zero]
                go_simp
                refine hK.out _ _ (KEEP.out _ ((HB5.out.setCell (p := ⟨rb, 0, none⟩) hrb (.int .i64 x)).setCell (p := ⟨rb, 1, none⟩) hrb (.int .i64 y))) (fun hHeld => ?_)
                clear hK K c0 c1 y0 y1
                try simp only [List.getElem_toArray, List.getElem_cons_succ, List.getElem_cons_zero, Act.put, List.setIfInBounds_toArray, List.set_cons_zero, List.set_cons_succ]
                refine wpAnyH_take (i := 15) (v := ?_) rfl (by kernel_rfl) (by kernel_rfl) (by kernel_rfl) (fun _ _ _ h => h) (Or.inl ⟨by rfl, ?_⟩) (by assumption) ?_
                rotate_left
                · (intro w hSw; (try dsimp only at hSw); go_simp; try with_reducible rfl)
                try simp only [List.getElem_toArray, List.getElem_cons_succ, List.getElem_cons_zero, Act.put, List.setIfInBounds_toArray, List.set_cons_zero, List.set_cons_succ]
                refine wpAnyH_done (by kernel_rfl) ?_ _
                clear hHeld
                have HBZ := Lib.hid (HBR.out.trans (((HB5.out.setCell (p := ⟨rb, 0, none⟩) hrb (.int .i64 x)).setCell (p := ⟨rb, 1, none⟩) hrb (.int .i64 y)).mono HBR.out.size))
                have HRZ := Lib.hid ((HR5.out.set_ 0 (.int .i64 x)).set_ 1 (.int .i64 y))
                clear HB5 KEEP HG0 HBA HR5
                generalize (w5.setCell ⟨rb, 0, none⟩ (.int .i64 x)).setCell ⟨rb, 1, none⟩ (.int .i64 y) = wz at *
                have hkg := HKG.out.same (same_below HBZ.out) HKG.out.lt
                have hkb := HKB.out.same (same_below HBZ.out) HKB.out.lt
                have hrl : _ = some (Value.int .i64 N) := hkb.cell 0
                have hrd : _ = some (Value.int .i64 D) := hkb.cell 1
                have r0 : _ = some (Value.int .i64 x) := HRZ.out.cell 0
                have r1 : _ = some (Value.int .i64 y) := HRZ.out.cell 1
                have g_i : wz.cell? ⟨gb, i, none⟩ = some (.int .i64 ((C.getD i 0 : Nat) : Int)) := by
                  rw [hkg.cell]; simp [natV, List.getD_eq_getElem?_getD, show i < C.length from by rw [HCL.out]; exact hiL]
                have g_k : wz.cell? ⟨gb, k, none⟩ = some (.int .i64 ((C.getD k 0 : Nat) : Int)) := by
                  rw [hkg.cell]; simp [natV, List.getD_eq_getElem?_getD, show k < C.length from by rw [HCL.out]; omega]
                have HCC : Hid (alS N D S i k = true → C.getD i 0 = C.getD k 0) := Lib.hid (HCS.out i k hki hiL)
                clear hkg hkb
                generalize C.getD i 0 = p at *
                generalize C.getD k 0 = q at *
                by_cases hpq : p = q
                · have hd : ((p : Int) != (q : Int)) = false := by rw [hpq]; simp
                  clear hpq HCC
                  go_wp2_with fail
                  go_quiet (fail)
                  have HBD := Lib.hid (below_drewN HBZ.out nq)
                  clear HBZ HRZ r0 r1 hrl hrd g_i g_k
                  generalize wz.drewN nq = wd at *
                  go_wp2_with fail
                  go_roundw
                  case rel => exact ⟨k + 1, by omega, by go_num, HBD⟩
                  case measure => simp [intOf]; omega
                · have hd : ((p : Int) != (q : Int)) = true := by rw [bne_iff_ne]; omega
                  have hnl : ¬ N * y ≤ x * D := fun h => hpq (HCC.out (by rw [HAL.out]; exact decide_eq_true h))
                  have hd2 : decide ((N : Int) * (y : Int) ≤ (x : Int) * (D : Int)) = false := decide_eq_false (by rw [← Int.natCast_mul, ← Int.natCast_mul]; omega)
                  clear hpq HCC hnl
                  go_wp2_with fail
                  go_quiet (fail)
                  have HBD := Lib.hid (below_drewN HBZ.out nq)
                  clear HBZ HRZ r0 r1 hrl hrd g_i g_k
                  generalize wz.drewN nq = wd at *
                  go_wp2_with fail
                  go_roundw
                  case rel => exact ⟨k + 1, by omega, by go_num, HBD⟩
                  case measure => simp [intOf]; omega
            · obtain rfl : k = i := by omega
              go_wp2_with fail
              go_roundw
              case rel => exact ⟨k + 1, by omega, by go_num, HBR⟩
              case measure => simp [intOf]; omega
        · have HBE := Lib.hid (below_trans2 HBA.out HBI.out HBA.out.size)
          go_wp2_with fail
          go_ret
          exact ⟨rfl, HBE.out⟩
end Go.Proofs.Ytllbklnljmgppaa
