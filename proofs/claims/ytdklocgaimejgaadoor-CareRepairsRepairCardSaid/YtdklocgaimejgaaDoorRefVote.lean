/-
  'vote' of the reference: the vote on the copies of one item.
-/
import Derived.Test.YtdklocgaimejgaaDoorProg
import Derived.Test.YtdklocgaimejgaaDoorVote
namespace Go.Proofs.YtdklocgaimejgaaDoor
open Go.RowKit
set_option linter.unusedVariables false
set_option linter.unusedSimpArgs false

set_option maxRecDepth 100000 in
set_option maxHeartbeats 4000000 in
theorem refVote_any (v0 : Value) (s : List Site) (v1 : Value) (l : List Held) (w : World) (h0 : (Rp.sl siteRp).ok w (· < w.heap.size) [v0] s) (h1 : (Rp.sl heldRp).ok w (· < w.heap.size) [v1] l) (hv : VoteOk s l) :
    Calls Tryd.prog 53 #[v0, v1] w (VotePost (voteOf s l) w) := by
  obtain ⟨A, c, rfl, hl, hc, _⟩ := Rp.sl_open h1
  unfold maxLen at hc
  have hl3 : l.length ≤ 3000 := hv.2.2.2
  have hl0 : 0 < l.length := List.length_pos_iff.2 hv.2.2.1
  have H0 := Lib.hid h0
  have H1 := Lib.hid h1
  have HV := Lib.hid hv
  have HWT := Lib.hid (fun x (hx : x ∈ l) => wtOf_range hv hx)
  have hba := (Below.refl w.heap.size w).alloc (Nat.le_refl _) (.cells #[.string ⟨#[]⟩, .string ⟨#[]⟩, .slice none 0 0, .slice none 0 0] 38)
  obtain ⟨ad, c', e1, hadb, c0, c1, c2, hz1, hz2, hz3⟩ := held_at (Rp.ext _ h1 hba) hl0
  injection e1 with e1 _ e3
  subst e1 e3
  rw [Nat.zero_mul, add_nil] at c0
  have hit : l[0].item = (voteOf s l).item := by
    rw [voteOf]
    cases l with
    | nil => simp at hl0
    | cons h t => rfl
  have HIT := Lib.hid hit
  clear hit hadb c1 c2 h0 h1 hv
  generalize l[0].item = it at *
  have HB1 := Lib.hid (hba.alloc hba.size (.cells #[.string (bstr it), .string ⟨#[]⟩, .slice none 0 0, .slice none 0 0] 38))
  have HKZ1 : Hid (Blk ((w.alloc (.cells #[.string ⟨#[]⟩, .string ⟨#[]⟩, .slice none 0 0, .slice none 0 0] 38)).alloc (.cells #[.string (bstr it), .string ⟨#[]⟩, .slice none 0 0, .slice none 0 0] 38)) w.heap.size 38 zeroVote) :=
    Lib.hid ((Blk.new w 38 zeroVote).same (same_below ((Below.refl (w.alloc (.cells zeroVote.toArray 38)).heap.size _).alloc (Nat.le_refl _) (.cells #[.string (bstr it), .string ⟨#[]⟩, .slice none 0 0, .slice none 0 0] 38))) (by simp))
  have hkv := Blk.new (w.alloc (.cells #[.string ⟨#[]⟩, .string ⟨#[]⟩, .slice none 0 0, .slice none 0 0] 38)) 38 [.string (bstr it), .string ⟨#[]⟩, .slice none 0 0, .slice none 0 0]
  rw [World.size_alloc] at hkv
  obtain ⟨bv, hbv⟩ : ∃ bv, bv = w.heap.size + 1 := ⟨_, rfl⟩
  rw [← hbv] at hkv
  have HKV1 := Lib.hid hkv
  have hbm : w.heap.size < bv := by omega
  have HBV := Lib.hid hbv
  clear hba hkv hbv
  go_enter Tryd.func53, Tryd.ntmps53
  go_wp2_with fail
  rw [← HBV.out]
  go_loopw [6, 23] (fun va i wr => ∃ (k : Nat), k ≤ l.length ∧ i = .int .i64 k ∧ va = .int .i64 (sumW s (l.take k)) ∧ Hid (Blk wr w.heap.size 38 zeroVote) ∧
    Hid (Blk wr bv 38 [.string (bstr it), .string ⟨#[]⟩, .slice none 0 0, .slice none 0 0]) ∧ Hid (Below w.heap.size w wr)) (fun _ i _ => l.length - (intOf i).toNat)
  case atStart => exact ⟨0, by omega, rfl, rfl, HKZ1.out, HKV1.out, HB1.out⟩
  case round =>
    clear HKZ1 HKV1 HB1 c0
    obtain ⟨k, hk, rfl, rfl, HKZ, HKV, HB⟩ := hrel
    by_cases hlt : k < l.length
    · obtain ⟨ad', c', e1, hadb, c0, c1, c2, hz1, hz2, hz3⟩ := held_at (Rp.below _ H1.out HB.out) hlt
      injection e1 with e1 _ e3
      injection e1 with e1
      subst e1 e3
      have hwr := HWT.out _ (List.getElem_mem hlt)
      obtain ⟨si, hsi, hidx⟩ := HV.out.1 _ (List.getElem_mem hlt)
      have hwd : wtOf s l[k] = s[si].weight := by rw [wtOf, hidx, Int.toNat_natCast, getD_at _ _ hsi]
      have hst := sumW_take s l k hlt
      have hsr := sumW_range (s := s) (l := l.take k) (fun x hx => HWT.out x (List.mem_of_mem_take hx))
      rw [List.length_take] at hsr
      have HST := Lib.hid hst
      clear hadb hst
      generalize l[k] = x at *
      obtain ⟨S0, hS0⟩ : ∃ S0, sumW s (l.take k) = S0 := ⟨_, rfl⟩
      rw [hS0] at HST hsr ⊢
      obtain ⟨W0, hW0⟩ : ∃ W0, wtOf s x = W0 := ⟨_, rfl⟩
      rw [hW0] at HST hwr hwd
      clear hS0 hW0
      have HHB := Lib.hid (HB.out.alloc HB.out.size (.cells #[.string (bstr x.item), .string (bstr x.site), .string (bstr x.digest)] 47))
      have hkb := Blk.new wr 47 [.string (bstr x.item), .string (bstr x.site), .string (bstr x.digest)]
      have k1 : _ = some (Value.string (bstr x.site)) := hkb.cell 1
      go_wp2_with fail
      refine (siteOf_any v0 s x.site _ (Rp.ext _ H0.out HHB.out)).mono ?_
      rintro e w5 ⟨rfl, hb5⟩
      rw [hidx]
      have HB5 := Lib.hid (HHB.out.trans (hb5.mono HHB.out.size))
      have hbw : Below wr.heap.size wr w5 := ((Below.refl wr.heap.size wr).alloc (Nat.le_refl _) _).trans (hb5.mono (by simp))
      have HKZ5 := Lib.hid (HKZ.out.same (same_below hbw) HKZ.out.lt)
      have HKV5 := Lib.hid (HKV.out.same (same_below hbw) HKV.out.lt)
      obtain ⟨ads, cs, e2, cw⟩ := site_at (Rp.ext _ H0.out HB5.out) hsi
      rw [← hwd] at cw
      subst e2
      have hsl : (si : Int) < (s.length : Int) := by omega
      clear hb5 hkb k1 hbw hidx c0 c1 c2 hwd HKZ HKV
      go_wp2_with fail
      go_roundw
      case rel => exact ⟨k + 1, by omega, by go_num, by rw [HST.out], HKZ5.out, HKV5.out, HB5.out⟩
      case measure => simp [intOf]; omega
    · obtain rfl : k = l.length := by omega
      rw [List.take_length]
      have hsr := sumW_range (s := s) (l := l) HWT.out
      obtain ⟨S0, hS0⟩ : ∃ S0, sumW s l = S0 := ⟨_, rfl⟩
      rw [hS0] at hsr ⊢
      have HS0 := Lib.hid hS0
      have HKZ1 := HKZ
      have HKV1 := HKV
      have HB1 := HB
      clear hS0 HKZ HKV HB hlt hk
      go_wp2_with fail
      go_loopw [40] (fun i w2 => ∃ (k : Nat) (d : List UInt8), k ≤ l.length ∧ i = .int .i64 k ∧ Hid (voteDigGo s l (l.drop k) d = voteDig s l) ∧ Hid (Blk w2 w.heap.size 38 zeroVote) ∧
        Hid (Blk w2 bv 38 [.string (bstr it), .string (bstr d), .slice none 0 0, .slice none 0 0]) ∧ Hid (Below w.heap.size w w2)) (fun i _ => l.length - (intOf i).toNat)
      case atStart => exact ⟨0, [], by omega, rfl, rfl, HKZ1.out, HKV1.out, HB1.out⟩
      case round =>
        clear HKZ1 HKV1 HB1
        obtain ⟨k, d, hk, rfl, HVD, HKZ, HKV, HB⟩ := hrel
        by_cases hlt : k < l.length
        · obtain ⟨ad', c', e1, hadb, c0, c1, c2, hz1, hz2, hz3⟩ := held_at (Rp.below _ H1.out HB.out) hlt
          injection e1 with e1 _ e3
          injection e1 with e1
          subst e1 e3
          have hvs := voteDigGo_step s l l k hlt d
          rw [HVD.out, HS0.out] at hvs
          have HVS := Lib.hid hvs
          clear hadb hvs
          generalize l[k] = x at *
          have hbw := (Below.refl wr.heap.size wr).alloc (Nat.le_refl _) (.cells #[.string (bstr x.item), .string (bstr x.site), .string (bstr x.digest)] 47)
          have HKX := Lib.hid (Blk.new wr 47 [.string (bstr x.item), .string (bstr x.site), .string (bstr x.digest)])
          have HKZ1 := Lib.hid (HKZ.out.same (same_below hbw) HKZ.out.lt)
          have HKV1 := Lib.hid (HKV.out.same (same_below hbw) HKV.out.lt)
          have HB1 := Lib.hid (HB.out.alloc HB.out.size (.cells #[.string (bstr x.item), .string (bstr x.site), .string (bstr x.digest)] 47))
          have hbx : bv < wr.heap.size := HKV.out.lt
          obtain ⟨bx, hbxe⟩ : ∃ bx, bx = wr.heap.size := ⟨_, rfl⟩
          rw [← hbxe] at HKX hbx
          have HBX := Lib.hid hbxe
          clear hbw hbxe HKZ HKV HB
          go_wp2_with fail
          rw [← HBX.out]
          go_loopw [11, 46] (fun vn i w3 => ∃ (j : Nat), j ≤ l.length ∧ i = .int .i64 j ∧ vn = .int .i64 (ofW s x.digest (l.take j)) ∧ Hid (Blk w3 bx 47 [.string (bstr x.item), .string (bstr x.site), .string (bstr x.digest)]) ∧ Hid (Blk w3 w.heap.size 38 zeroVote) ∧
            Hid (Blk w3 bv 38 [.string (bstr it), .string (bstr d), .slice none 0 0, .slice none 0 0]) ∧ Hid (Below w.heap.size w w3)) (fun _ i _ => l.length - (intOf i).toNat)
          case atStart => exact ⟨0, by omega, rfl, rfl, HKX.out, HKZ1.out, HKV1.out, HB1.out⟩
          case round =>
            clear HKX HKZ1 HKV1 HB1 c0 c1 c2
            obtain ⟨j, hj, rfl, rfl, HKX, HKZ, HKV, HB⟩ := hrel
            by_cases hjl : j < l.length
            · obtain ⟨ad', c', e1, hadb, c0, c1, c2, hy1, hy2, hy3⟩ := held_at (Rp.below _ H1.out HB.out) hjl
              injection e1 with e1 _ e3
              injection e1 with e1
              subst e1 e3
              have hwr := HWT.out _ (List.getElem_mem hjl)
              obtain ⟨si, hsi, hidx⟩ := HV.out.1 _ (List.getElem_mem hjl)
              have hwd : wtOf s l[j] = s[si].weight := by rw [wtOf, hidx, Int.toNat_natCast, getD_at _ _ hsi]
              have hot := ofW_take s x.digest l j hjl
              have hor := ofW_range (s := s) x.digest (l := l.take j) (fun x hx => HWT.out x (List.mem_of_mem_take hx))
              rw [List.length_take] at hor
              have HOT := Lib.hid hot
              clear hadb hot
              generalize l[j] = y at *
              obtain ⟨O0, hO0⟩ : ∃ O0, ofW s x.digest (l.take j) = O0 := ⟨_, rfl⟩
              rw [hO0] at HOT hor ⊢
              obtain ⟨W0, hW0⟩ : ∃ W0, wtOf s y = W0 := ⟨_, rfl⟩
              rw [hW0] at HOT hwr hwd
              clear hO0 hW0
              have hbw := (Below.refl wr.heap.size wr).alloc (Nat.le_refl _) (.cells #[.string (bstr y.item), .string (bstr y.site), .string (bstr y.digest)] 47)
              have hkb := Blk.new wr 47 [.string (bstr y.item), .string (bstr y.site), .string (bstr y.digest)]
              have k1 : _ = some (Value.string (bstr y.site)) := hkb.cell 1
              have k2 : _ = some (Value.string (bstr y.digest)) := hkb.cell 2
              have HKX1 := Lib.hid (HKX.out.same (same_below hbw) HKX.out.lt)
              have x2 : _ = some (Value.string (bstr x.digest)) := HKX1.out.cell 2
              have HKZ1 := Lib.hid (HKZ.out.same (same_below hbw) HKZ.out.lt)
              have HKV1 := Lib.hid (HKV.out.same (same_below hbw) HKV.out.lt)
              have HB1 := Lib.hid (HB.out.alloc HB.out.size (.cells #[.string (bstr y.item), .string (bstr y.site), .string (bstr y.digest)] 47))
              clear hbw HKX HKZ HKV HB
              by_cases hq : y.digest = x.digest
              · rw [if_pos hq] at HOT
                have hb1 : ((bstr y.digest).toList == (bstr x.digest).toList) = true := str_beq (by rw [hq])
                clear hq
                go_wp2_with fail
                refine (siteOf_any v0 s y.site _ (Rp.ext _ H0.out HB1.out)).mono ?_
                rintro e w5 ⟨rfl, hb5⟩
                rw [hidx]
                have HB5 := Lib.hid (HB1.out.trans (hb5.mono HB1.out.size))
                have HKX5 := Lib.hid (HKX1.out.same (same_below hb5) HKX1.out.lt)
                have HKZ5 := Lib.hid (HKZ1.out.same (same_below hb5) HKZ1.out.lt)
                have HKV5 := Lib.hid (HKV1.out.same (same_below hb5) HKV1.out.lt)
                obtain ⟨ads, cs, e2, cw⟩ := site_at (Rp.ext _ H0.out HB5.out) hsi
                rw [← hwd] at cw
                subst e2
                have hsl : (si : Int) < (s.length : Int) := by omega
                clear hb5 hkb k1 k2 x2 hidx c0 c1 c2 hwd HKX1 HKZ1 HKV1 HB1
                go_wp2_with fail
                go_roundw
                case rel => exact ⟨j + 1, by omega, by go_num, by rw [HOT.out], HKX5.out, HKZ5.out, HKV5.out, HB5.out⟩
                case measure => simp [intOf]; omega
              · rw [if_neg hq, Int.add_zero] at HOT
                have hb1 : ((bstr y.digest).toList == (bstr x.digest).toList) = false := str_bne (fun e => hq (bstr_inj e))
                clear hq hkb
                go_wp2_with fail
                go_roundw
                case rel => exact ⟨j + 1, by omega, by go_num, by rw [HOT.out], HKX1.out, HKZ1.out, HKV1.out, HB1.out⟩
                case measure => simp [intOf]; omega
            · obtain rfl : j = l.length := by omega
              rw [List.take_length]
              have hor := ofW_range (s := s) x.digest (l := l) HWT.out
              obtain ⟨O0, hO0⟩ : ∃ O0, ofW s x.digest l = O0 := ⟨_, rfl⟩
              rw [hO0] at HVS hor ⊢
              have hw2 : IntKind.i64.wrap (2 * O0) = 2 * O0 := IntWalk.i64_in _ (by omega)
              have x2 : _ = some (Value.string (bstr x.digest)) := HKX.out.cell 2
              have fv := HKV.out.frozen 1
              have v1 : _ = some (Value.string (bstr d)) := HKV.out.cell 1
              clear hO0 hjl hj
              by_cases hgt : S0 < 2 * O0
              · rw [if_pos hgt] at HVS
                have HS1 := Lib.hid (HKZ.out.same (set_same _ ⟨bv, 1, none⟩ (.string (bstr x.digest))) (by show w.heap.size ≠ bv; omega))
                have HS3 := Lib.hid (HKV.out.set_ 1 (.string (bstr x.digest)))
                have HS4 := Lib.hid (HB.out.setCell (p := ⟨bv, 1, none⟩) (by show w.heap.size ≤ bv; omega) (.string (bstr x.digest)))
                clear HKZ HKV HB
                go_wp2_with fail
                go_roundw
                case rel => exact ⟨k + 1, x.digest, by omega, by go_num, HVS.out.symm, HS1.out, HS3.out, HS4.out⟩
                case measure => simp [intOf]; omega
              · rw [if_neg hgt] at HVS
                go_wp2_with fail
                go_roundw
                case rel => exact ⟨k + 1, d, by omega, by go_num, HVS.out.symm, HKZ.out, HKV.out, HB.out⟩
                case measure => simp [intOf]; omega
        · obtain rfl : k = l.length := by omega
          rw [List.drop_length] at HVD
          obtain rfl : d = voteDig s l := HVD.out
          have HB0 := HB
          have HKZ0 := HKZ
          have HKV0 := HKV
          have hdl : (voteDig s l).length ≤ (voteDig s l).length := Nat.le_refl _
          generalize hdg : voteDig s l = dg at *
          have HDG := Lib.hid hdg
          clear HVD HKZ HKV HB hlt hk hdg
          go_wp2_with fail
          go_loopw [76] (fun i w3 => ∃ (k : Nat) (vr vw : Value), k ≤ l.length ∧ i = .int .i64 k ∧ Hid (Blk w3 bv 38 [.string (bstr it), .string (bstr dg), vr, vw]) ∧ Hid (Blk w3 w.heap.size 38 zeroVote) ∧
            Hid (w3.ownsRow (bv + 1) 9 1 vr (sitesOf (isD dg) (l.take k)).length (strs (sitesOf (isD dg) (l.take k)))) ∧ Hid (w3.ownsRow (bv + 1) 9 1 vw (sitesOf (notD dg) (l.take k)).length (strs (sitesOf (notD dg) (l.take k)))) ∧ Hid (Apt vr vw) ∧ Hid (Below w.heap.size w w3)) (fun i _ => l.length - (intOf i).toNat)
          case atStart => exact ⟨0, _, _, by omega, rfl, HKV0.out, HKZ0.out, World.ownsRow_nil _ _ _ _, World.ownsRow_nil _ _ _ _, (fun g a _ => by cases a), HB0.out⟩
          case round =>
            clear HB0 HKZ0 HKV0
            obtain ⟨k, vr, vw, hk, rfl, HKV, HKZ, HOR, HOW, HAP, HB⟩ := hrel
            by_cases hlt : k < l.length
            · obtain ⟨ad', c', e1, hadb, c0, c1, c2, hz1, hz2, hz3⟩ := held_at (Rp.below _ H1.out HB.out) hlt
              injection e1 with e1 _ e3
              injection e1 with e1
              subst e1 e3
              have hR := sitesOf_take (isD dg) l k hlt
              have hW := sitesOf_take (notD dg) l k hlt
              have hnl := sitesOf_len (isD dg) (l.take k)
              have hml := sitesOf_len (notD dg) (l.take k)
              rw [List.length_take] at hnl hml
              have HR := Lib.hid hR
              have HW := Lib.hid hW
              clear hadb hR hW
              generalize l[k] = x at *
              obtain ⟨n, hn⟩ : ∃ n, (sitesOf (isD dg) (l.take k)).length = n := ⟨_, rfl⟩
              obtain ⟨m, hm⟩ : ∃ m, (sitesOf (notD dg) (l.take k)).length = m := ⟨_, rfl⟩
              rw [hn] at HOR hnl
              rw [hm] at HOW hml
              have HN := Lib.hid hn
              have HM := Lib.hid hm
              have hn3 : n ≤ 3000 := by omega
              have hm3 : m ≤ 3000 := by omega
              clear hn hm hnl hml
              have hkb := Blk.new wr 47 [.string (bstr x.item), .string (bstr x.site), .string (bstr x.digest)]
              have k1 : _ = some (Value.string (bstr x.site)) := hkb.cell 1
              have k2 : _ = some (Value.string (bstr x.digest)) := hkb.cell 2
              have hbw := (Below.refl wr.heap.size wr).alloc (Nat.le_refl _) (.cells #[.string (bstr x.item), .string (bstr x.site), .string (bstr x.digest)] 47)
              have HKZ1 := Lib.hid (HKZ.out.same (same_below hbw) HKZ.out.lt)
              have hkv1 := HKV.out.same (same_below hbw) HKV.out.lt
              have HKV1 := Lib.hid hkv1
              have HOR1 := Lib.hid (own_below HOR.out hbw)
              have HOW1 := Lib.hid (own_below HOW.out hbw)
              have HB1 := Lib.hid (HB.out.alloc HB.out.size (.cells #[.string (bstr x.item), .string (bstr x.site), .string (bstr x.digest)] 47))
              have v1 : _ = some (Value.string (bstr dg)) := hkv1.cell 1
              have v2 : _ = some vr := hkv1.cell 2
              have v3 : _ = some vw := hkv1.cell 3
              have hlb := HKV1.out.lt
              have HSZ : Hid (bv + 1 ≤ (wr.alloc (.cells #[.string (bstr x.item), .string (bstr x.site), .string (bstr x.digest)] 47)).heap.size) := Lib.hid (by omega)
              have hwb : w.heap.size ≤ (wr.alloc (.cells #[.string (bstr x.item), .string (bstr x.site), .string (bstr x.digest)] 47)).heap.size := HB1.out.size
              obtain ⟨A5, c5, rfl, _⟩ := own_form HOR1.out
              obtain ⟨A6, c6, rfl, _⟩ := own_form HOW1.out
              clear hkb hbw hkv1 HOR HOW HKV HKZ HB
              by_cases hq : x.digest = dg
              · have hb1 : ((bstr x.digest).toList == (bstr dg).toList) = true := str_beq (by rw [hq])
                have HR2 : Hid (sitesOf (isD dg) (l.take (k + 1)) = sitesOf (isD dg) (l.take k) ++ [x.site]) := Lib.hid (by rw [HR.out, if_pos (show isD dg x.digest = true from decide_eq_true hq)])
                have HW2 : Hid (sitesOf (notD dg) (l.take (k + 1)) = sitesOf (notD dg) (l.take k) ++ []) := Lib.hid (by rw [HW.out, if_neg (by simp [notD, hq])])
                clear hq HR HW
                have fz := HKV1.out.frozen 2
                go_wp2_with (at_builtin; refine app_str rfl (.tmp 86) (.tmp 89) rfl HOR1.out HSZ.out rfl (by rw [World.size_alloc]; rfl) (by omega) ?_; intro g1 cc1 w9 HO9 HG9 HB9x HL9; have hkv9 := HKV1.out.same (grown_same HG9.out) ⟨HKV1.out.lt, fun e => by have := (HOR1.out.lt _ e.symm).1; omega⟩; have fz9 := hkv9.frozen 2; have v9 : w9.cell? ⟨bv, 2, none⟩ = some (.slice A5 n c5) := hkv9.cell 2; have HKV9 := Lib.hid hkv9)
                have HG10 := Lib.hid (grown_set w9 bv 2 (.slice (some ⟨g1, 0, none⟩) (n + 1) cc1))
                go_roundw
                case rel =>
                  refine ⟨k + 1, _, _, by omega, by go_num, HKV9.out.set_ 2 _, ?_, ?_, ?_, ?_, ?_⟩
                  · exact (HKZ1.out.same (grown_same HG9.out) ⟨HKZ1.out.lt, fun e => by have := (HOR1.out.lt _ e.symm).1; omega⟩).same (set_same _ _ _) (by show w.heap.size ≠ bv; omega)
                  · rw [HR2.out, strs_app, List.length_append, HN.out]
                    exact HO9.out.kept HG10.out (.inr fun e => by have := (HO9.out.lt _ rfl).1; injection e with e; omega)
                  · rw [HW2.out, List.append_nil, HM.out]
                    exact (HOW1.out.kept HG9.out HAP.out.ne).kept HG10.out (own_not (fun g hg => (HOW1.out.lt g hg).1))
                  · exact HAP.out.grow2 HL9.out HOW1.out
                  · exact (HB1.out.grown HG9.out (by omega) (fun g hg => by have := (HOR1.out.lt g hg).1; omega)).setCell (p := ⟨bv, 2, none⟩) (by show w.heap.size ≤ bv; omega) _
                case measure => simp [intOf]; omega
              · have hb1 : ((bstr x.digest).toList == (bstr dg).toList) = false := str_bne (fun e => hq (bstr_inj e))
                have HR2 : Hid (sitesOf (isD dg) (l.take (k + 1)) = sitesOf (isD dg) (l.take k) ++ []) := Lib.hid (by rw [HR.out, if_neg (by simp [isD, hq])])
                have HW2 : Hid (sitesOf (notD dg) (l.take (k + 1)) = sitesOf (notD dg) (l.take k) ++ [x.site]) := Lib.hid (by rw [HW.out, if_pos (show notD dg x.digest = true from decide_eq_true hq)])
                clear hq HR HW
                have fz := HKV1.out.frozen 3
                go_wp2_with (at_builtin; refine app_str rfl (.tmp 93) (.tmp 96) rfl HOW1.out HSZ.out rfl (by rw [World.size_alloc]; rfl) (by omega) ?_; intro g1 cc1 w9 HO9 HG9 HB9x HL9; have hkv9 := HKV1.out.same (grown_same HG9.out) ⟨HKV1.out.lt, fun e => by have := (HOW1.out.lt _ e.symm).1; omega⟩; have fz9 := hkv9.frozen 3; have v9 : w9.cell? ⟨bv, 3, none⟩ = some (.slice A6 m c6) := hkv9.cell 3; have HKV9 := Lib.hid hkv9)
                have HG10 := Lib.hid (grown_set w9 bv 3 (.slice (some ⟨g1, 0, none⟩) (m + 1) cc1))
                go_roundw
                case rel =>
                  refine ⟨k + 1, _, _, by omega, by go_num, HKV9.out.set_ 3 _, ?_, ?_, ?_, ?_, ?_⟩
                  · exact (HKZ1.out.same (grown_same HG9.out) ⟨HKZ1.out.lt, fun e => by have := (HOW1.out.lt _ e.symm).1; omega⟩).same (set_same _ _ _) (by show w.heap.size ≠ bv; omega)
                  · rw [HR2.out, List.append_nil, HN.out]
                    exact (HOR1.out.kept HG9.out HAP.out.symm.ne).kept HG10.out (own_not (fun g hg => (HOR1.out.lt g hg).1))
                  · rw [HW2.out, strs_app, List.length_append, HM.out]
                    exact HO9.out.kept HG10.out (.inr fun e => by have := (HO9.out.lt _ rfl).1; injection e with e; omega)
                  · exact (HAP.out.symm.grow2 HL9.out HOR1.out).symm
                  · exact (HB1.out.grown HG9.out (by omega) (fun g hg => by have := (HOW1.out.lt g hg).1; omega)).setCell (p := ⟨bv, 3, none⟩) (by show w.heap.size ≤ bv; omega) _
                case measure => simp [intOf]; omega
            · obtain rfl : k = l.length := by omega
              rw [List.take_length] at HOR HOW
              have hV : voteOf s l = ⟨it, dg, sitesOf (isD dg) l, sitesOf (notD dg) l⟩ := by
                have := HIT.out
                unfold voteOf at this ⊢
                rw [HDG.out] at this ⊢
                simp only [] at this
                rw [this]
              have HVV := Lib.hid hV
              obtain ⟨A5, c5, rfl, _⟩ := own_form HOR.out
              obtain ⟨A6, c6, rfl, _⟩ := own_form HOW.out
              have v0 : wr.cell? ⟨bv, 0, none⟩ = some (.string (bstr it)) := HKV.out.cell 0
              have v1 : wr.cell? ⟨bv, 1, none⟩ = some (.string (bstr dg)) := HKV.out.cell 1
              have v2 : wr.cell? ⟨bv, 2, none⟩ = some (.slice A5 (sitesOf (isD dg) l).length c5) := HKV.out.cell 2
              have v3 : wr.cell? ⟨bv, 3, none⟩ = some (.slice A6 (sitesOf (notD dg) l).length c6) := HKV.out.cell 3
              have z0 : wr.cell? ⟨w.heap.size, 0, none⟩ = some (.string ⟨#[]⟩) := HKZ.out.cell 0
              have z1 : wr.cell? ⟨w.heap.size, 1, none⟩ = some (.string ⟨#[]⟩) := HKZ.out.cell 1
              have z2 : wr.cell? ⟨w.heap.size, 2, none⟩ = some (.slice none 0 0) := HKZ.out.cell 2
              have z3 : wr.cell? ⟨w.heap.size, 3, none⟩ = some (.slice none 0 0) := HKZ.out.cell 3
              have y0 := HKZ.out.frozen 0
              have y1 := HKZ.out.frozen 1
              have y2 := HKZ.out.frozen 2
              have y3 := HKZ.out.frozen 3
              have HK4 := Lib.hid ((((HKZ.out.set_ 0 (.string (bstr it))).set_ 1 (.string (bstr dg))).set_ 2 (.slice A5 (sitesOf (isD dg) l).length c5)).set_ 3 (.slice A6 (sitesOf (notD dg) l).length c6))
              have hbw : w.heap.size ≤ bv + 1 := by omega
              have keep4 : ∀ {v : Value} {n : Nat} {xs : List Value}, wr.ownsRow (bv + 1) 9 1 v n xs → ((((wr.setCell ⟨w.heap.size, 0, none⟩ (.string (bstr it))).setCell ⟨w.heap.size, 1, none⟩ (.string (bstr dg))).setCell ⟨w.heap.size, 2, none⟩ (.slice A5 (sitesOf (isD dg) l).length c5)).setCell ⟨w.heap.size, 3, none⟩ (.slice A6 (sitesOf (notD dg) l).length c6)).ownsRow w.heap.size 9 1 v n xs := fun {v n xs} h => by
                have hn : v.ownBlock = none ∨ v.ownBlock ≠ some w.heap.size := by
                  cases hg : v.ownBlock with
                  | none => exact .inl rfl
                  | some g => exact .inr fun e => by injection e with e; have := (h.lt g hg).1; omega
                exact World.ownsRow.mono ((((h.kept (grown_set _ _ _ _) hn).kept (grown_set _ _ _ _) hn).kept (grown_set _ _ _ _) hn).kept (grown_set _ _ _ _) hn) hbw
              have HR4 := Lib.hid (keep4 HOR.out)
              have HW4 := Lib.hid (keep4 HOW.out)
              have HB4 := Lib.hid ((((HB.out.setCell (p := ⟨w.heap.size, 0, none⟩) (Nat.le_refl _) (.string (bstr it))).setCell (p := ⟨w.heap.size, 1, none⟩) (Nat.le_refl _) (.string (bstr dg))).setCell (p := ⟨w.heap.size, 2, none⟩) (Nat.le_refl _) (.slice A5 (sitesOf (isD dg) l).length c5)).setCell (p := ⟨w.heap.size, 3, none⟩) (Nat.le_refl _) (.slice A6 (sitesOf (notD dg) l).length c6))
              clear keep4 hV HKZ HKV HOR HOW HB
              go_wp2_with fail
              have u0 := HK4.out.cell 0
              have u1 := HK4.out.cell 1
              have u2 := HK4.out.cell 2
              have u3 := HK4.out.cell 3
              simp only [zeroVote, List.set_cons_zero, List.set_cons_succ, List.getElem?_cons_zero, List.getElem?_cons_succ] at u0 u1 u2 u3
              exact bodyPost_ret (v := .agg #[.string (bstr it), .string (bstr dg), .slice A5 (sitesOf (isD dg) l).length c5, .slice A6 (sitesOf (notD dg) l).length c6]) (by simp [results, Tryd.results53, go_sem, u0, u1, u2, u3]) rfl
                ⟨_, _, by rw [HVV.out], by rw [HVV.out]; exact HR4.out, by rw [HVV.out]; exact HW4.out, HB4.out⟩
end Go.Proofs.YtdklocgaimejgaaDoor
