/-
  'DeltaBytes' of the reference.
-/
import Derived.Test.YtofahmdjhpbecaaProg
import Derived.Test.YtofahmdjhpbecaaDBTop
import Derived.Test.YtofahmdjhpbecaaConcat
namespace Go.Proofs.Ytofahmdjhpbecaa
open Go.RowKit
set_option linter.unusedVariables false
set_option linter.unusedSimpArgs false

def RdN (w : World) (v : Value) (l : List UInt8) : Prop := (Rp.sl Rp.u8).ok w (· < w.heap.size) [v] l
theorem rd_alloc {w : World} {v : Value} {l : List UInt8} (o : Obj) (h : RdN w v l) : RdN (w.alloc o) v l := Rp.ext _ h ((Below.refl w.heap.size w).alloc (Nat.le_refl _) o)
theorem cell_alloc {w : World} {a : Addr} {v : Value} (o : Obj) (h : w.cell? a = some v) : (w.alloc o).cell? a = some v := (World.cell?_of_block (Below.heap_alloc w _ _ (World.block_lt_of_cell? w _ h))).trans h
theorem cell_drew {w : World} {a : Addr} {v : Value} (h : w.cell? a = some v) : w.drew.cell? a = some v := h
theorem rd_drew {w : World} {v : Value} {l : List UInt8} (h : RdN w v l) : RdN w.drew v l := Rp.keep _ h (fun _ _ => rfl) (fun _ h => h)
theorem rd_lit {w : World} {g n : Nat} {cs : Array Value} (l : List UInt8) (hg : g = w.heap.size) (hn : n = l.length) (hcs : cs = (bys l).toArray) (hm : l.length ≤ maxLen) : RdN (w.alloc (.cells cs 5)) (.slice (some ⟨g, 0, none⟩) n n) l := by
  subst hg hn hcs
  have h := own_lit (w := w) (B := w.heap.size) (Nat.le_refl _) 5 (bys l) (by simpa [bys] using hm)
  rw [show (bys l).length = l.length by simp [bys]] at h
  exact Rp.u8_own h (fun g hg => (h.lt g hg).2)
theorem rd_one {w : World} {g : Nat} {z : Int} {l : List UInt8} (b : Nat) (hb : b < 256) (hz : z = (b : Int)) (hl : l = [UInt8.ofNat b]) (hg : g = w.heap.size) : RdN (w.alloc (.cells #[.int .u8 z] 5)) (.slice (some ⟨g, 0, none⟩) 1 1) l := by
  subst hz hl
  exact rd_lit [UInt8.ofNat b] hg rfl (by simp [bys, Nat.mod_eq_of_lt hb]) (by simp [maxLen])
theorem rd_two {w : World} {g : Nat} (n : Nat) (hg : g = w.heap.size) : RdN (w.alloc (.cells #[.int .u8 (hiB n), .int .u8 (loB n)] 5)) (.slice (some ⟨g, 0, none⟩) 2 2) (twoB n) :=
  rd_lit (twoB n) hg rfl (by simp [bys, twoB, hiB, loB]) (by simp [maxLen, twoB])
theorem four_read {w : World} {g : Nat} {v1 v2 v3 v4 : Value} {l1 l2 l3 l4 : List UInt8} (hg : g = w.heap.size) (h1 : RdN w v1 l1) (h2 : RdN w v2 l2) (h3 : RdN w v3 l3) (h4 : RdN w v4 l4) :
    (Rp.sl (Rp.sl Rp.u8)).ok (w.alloc (.cells #[v1, v2, v3, v4] 22)) (· < (w.alloc (.cells #[v1, v2, v3, v4] 22)).heap.size) [.slice (some ⟨g, 0, none⟩) 4 4] [l1, l2, l3, l4] := by
  subst hg
  have h := own_lit (w := w) (B := w.heap.size) (Nat.le_refl _) 22 [v1, v2, v3, v4] (by simp [maxLen])
  refine Rp.of_own (R := Rp.sl Rp.u8) (by decide) (l := [l1, l2, l3, l4]) h (fun g hg => (h.lt g hg).2) fun k hk => ?_
  match k, hk with
  | 0, _ => exact rd_alloc _ h1
  | 1, _ => exact rd_alloc _ h2
  | 2, _ => exact rd_alloc _ h3
  | 3, _ => exact rd_alloc _ h4

theorem four_read' {w : World} {g : Nat} {v1 v2 v3 v4 : Value} {l1 l2 l3 l4 : List UInt8} (hg : g = w.heap.size) (h1 : RdN w v1 l1) (h2 : RdN w v2 l2) (h3 : RdN w v3 l3) (h4 : RdN w v4 l4) :
    (Rp.sl (Rp.sl Rp.u8)).ok (w.alloc (.cells #[v1, v2, v3, v4] 22)).drew (· < (w.alloc (.cells #[v1, v2, v3, v4] 22)).drew.heap.size) [.slice (some ⟨g, 0, none⟩) 4 4] [l1, l2, l3, l4] :=
  Rp.keep _ (four_read hg h1 h2 h3 h4) (fun _ _ => rfl) (fun _ h => h)

set_option maxRecDepth 100000 in
set_option maxHeartbeats 4000000 in
theorem refDeltaBytes_any (v : Value) (l : List Cp) (w : World) (h : (Rp.sl cpRp).ok w (· < w.heap.size) [v] l) :
    Calls Try.prog 42 #[v] w (DBPost l w) := by
  obtain ⟨A, c, rfl, hl1, hc1, _⟩ := Rp.sl_open h
  unfold maxLen at hc1
  have H := Lib.hid h
  clear h
  by_cases hb : 3000 < l.length
  · have HP := Lib.hid (dbPost_bad (l := l) (w := w) (w' := w) (f := 2) (by rw [dbFault, if_pos hb]) (by decide) (Below.refl _ _))
    go_enter Try.func42, Try.ntmps42
    go_wp2
    go_ret2
    exact HP.out
  have HF0 : Hid (dbFault l = if dbChk l ≠ 0 then dbChk l else if 20000 < (dBytes l).length then 2 else 0) := by show dbFault l = _; rw [dbFault, if_neg hb]
  go_enter Try.func42, Try.ntmps42
  go_wp2
  go_loopw [4, 12] (fun vo i wr => ∃ k : Nat, k ≤ l.length ∧ i = .int .i64 k ∧ Hid (wr.ownsRow w.heap.size 5 1 vo (dBytes (l.take k)).length (bys (dBytes (l.take k)))) ∧ (dBytes (l.take k)).length ≤ k * 4000 ∧ Hid (dbChk l = dbChk (l.drop k)) ∧ Hid (Below w.heap.size w wr))
    (fun _ i _ => l.length - (intOf i).toNat)
  case atStart => exact ⟨0, by omega, rfl, World.ownsRow_nil _ _ _ _, Nat.zero_le _, rfl, Below.refl _ _⟩
  case round =>
    obtain ⟨k, hk, rfl, HO, htb, HC, HB⟩ := hrel
    have hwsz := HB.out.size
    obtain ⟨m, hm9⟩ : ∃ m, (dBytes (l.take k)).length = m := ⟨_, rfl⟩
    rw [hm9] at HO htb
    have HM := Lib.hid hm9
    clear hm9
    obtain ⟨A5, c5, rfl, hn5, hc5, hown5⟩ := own_form HO.out
    unfold maxLen at hc5
    by_cases hlt : k < l.length
    · obtain ⟨ad, us, rfl, _, hadb, hu, hcell⟩ := Rp.sl_at (Rp.below _ H.out HB.out) hlt
      obtain ⟨vb, rfl, hvb, hw1, hw2⟩ := cp_open hu
      have c0 : wr.cell? (ad.add (k * 3)) = some (.int .i64 l[k].frm) := hcell 0 _ rfl
      have c1 := hcell 1 _ rfl
      have c2 := hcell 2 _ rfl
      rw [add_fld _ _ _ (by omega)] at c1 c2
      change wr.cell? ⟨(ad.add (k * 3)).block, (ad.add (k * 3)).off + 1, none⟩ = some (.int .i64 l[k].n) at c1
      change wr.cell? ⟨(ad.add (k * 3)).block, (ad.add (k * 3)).off + 2, none⟩ = some vb at c2
      obtain ⟨A3, c3, rfl, hl3, hc3, _⟩ := Rp.sl_open hvb
      unfold maxLen at hc3
      have HVB := Lib.hid hvb
      have hNF := @dbChk_form l k hlt
      have hNR := @dbChk_range l k hlt
      have hNN := @dbChk_next l k hlt
      have HST := Lib.hid (dBytes_succ l k hlt)
      have hcl := @cpBytes_len l[k]
      have HNF := Lib.hid hNF
      have HNR := Lib.hid hNR
      have HNN := Lib.hid hNN
      have HCL := Lib.hid hcl
      clear hNF hNR hNN hcl hcell hu hvb hw1 hw2 hadb
      generalize hcp : l[k] = cp at *
      obtain ⟨frm, n, bs⟩ := cp
      clear hcp
      simp only [] at c0 c1 hl3
      have HHB := Lib.hid ((HB.out.alloc HB.out.size (.cells #[.int .i64 frm, .int .i64 n, .slice A3 bs.length c3] 93)).alloc (by simp; have := HB.out.size; omega) (.cells #[.int .i64 frm, .int .i64 n, .slice A3 bs.length c3] 93))
      by_cases hgood : cpGood frm n bs.length
      · have hcf : cpB frm n bs.length = true := decide_eq_true hgood
        have hnn : 0 ≤ n := by unfold cpGood at hgood; omega
        by_cases hrange : dbRange ⟨frm, n, bs⟩
        · have HP := Lib.hid (fun w' h => dbPost_bad (l := l) (w := w) (w' := w') (f := 1) (by rw [HF0.out, HC.out, HNR.out hgood hrange]; rfl) (by decide) h)
          have key : ¬ (0 ≤ frm ∧ frm ≤ 3000) ∨ ((0 ≤ frm ∧ frm ≤ 3000) ∧ ¬ (0 ≤ n ∧ n ≤ 3000)) ∨ ((0 ≤ frm ∧ frm ≤ 3000) ∧ (0 ≤ n ∧ n ≤ 3000) ∧ (3000 : Int) < bs.length) := by
            unfold dbRange at hrange; simp only [] at hrange; omega
          clear hgood hrange
          rcases key with q | ⟨q, q2⟩ | ⟨q, q2, q3⟩
          · have hw1 : withinB frm 0 3000 = false := decide_eq_false q
            go_wp2_with fail
            refine (isCopy_any frm n A3 bs.length c3 _ (by omega)).mono ?_
            rintro e w1 ⟨rfl, rfl⟩
            rw [hcf]
            go_wp2_with fail
            refine (within_any frm 0 3000 _).mono ?_
            rintro e w1 ⟨rfl, rfl⟩
            rw [hw1]
            go_wp2
            go_ret2
            exact HP.out _ HHB.out
          · have hw1 : withinB frm 0 3000 = true := decide_eq_true q
            have hw2 : withinB n 0 3000 = false := decide_eq_false q2
            go_wp2_with fail
            refine (isCopy_any frm n A3 bs.length c3 _ (by omega)).mono ?_
            rintro e w1 ⟨rfl, rfl⟩
            rw [hcf]
            go_wp2_with fail
            refine (within_any frm 0 3000 _).mono ?_
            rintro e w1 ⟨rfl, rfl⟩
            rw [hw1]
            go_wp2_with fail
            refine (within_any n 0 3000 _).mono ?_
            rintro e w1 ⟨rfl, rfl⟩
            rw [hw2]
            go_wp2
            go_ret2
            exact HP.out _ HHB.out
          · have hw1 : withinB frm 0 3000 = true := decide_eq_true q
            have hw2 : withinB n 0 3000 = true := decide_eq_true q2
            go_wp2_with fail
            refine (isCopy_any frm n A3 bs.length c3 _ (by omega)).mono ?_
            rintro e w1 ⟨rfl, rfl⟩
            rw [hcf]
            go_wp2_with fail
            refine (within_any frm 0 3000 _).mono ?_
            rintro e w1 ⟨rfl, rfl⟩
            rw [hw1]
            go_wp2_with fail
            refine (within_any n 0 3000 _).mono ?_
            rintro e w1 ⟨rfl, rfl⟩
            rw [hw2]
            go_wp2
            go_ret2
            exact HP.out _ HHB.out
        · have key : 0 ≤ frm ∧ frm ≤ 3000 ∧ n ≤ 3000 ∧ (bs.length : Int) ≤ 3000 := by unfold dbRange at hrange; simp only [] at hrange; omega
          obtain ⟨q, q2, q3, q4⟩ := key
          have HC2 : Hid (dbChk l = dbChk (l.drop (k + 1))) := by show _ = _; rw [HC.out, HNN.out hgood hrange]
          have hcl : (cpBytes ⟨frm, n, bs⟩).length = 3 + bs.length + if 0 < n then 2 else 0 := HCL.out hgood
          have hw1 : withinB frm 0 3000 = true := decide_eq_true ⟨q, q2⟩
          have hw2 : withinB n 0 3000 = true := decide_eq_true ⟨hnn, q3⟩
          obtain ⟨frm, rfl⟩ := Int.eq_ofNat_of_zero_le q
          obtain ⟨n, rfl⟩ := Int.eq_ofNat_of_zero_le hnn
          have hlen : (cpBytes ⟨(frm : Int), (n : Int), bs⟩).length ≤ 4000 := by rw [hcl]; split <;> omega
          have HSUM : Hid ((dBytes (l.take (k + 1))).length ≤ (k + 1) * 4000) := by show _ ≤ _; rw [HST.out, List.length_append, HM.out]; omega
          have HBC := HHB
          have hkb := Blk.new (wr.alloc (.cells #[.int .i64 frm, .int .i64 n, .slice A3 bs.length c3] 93)) 93 [.int .i64 frm, .int .i64 n, .slice A3 bs.length c3]
          have hka := (Blk.new wr 93 [.int .i64 frm, .int .i64 n, .slice A3 bs.length c3]).same (same_below ((Below.refl (wr.alloc (.cells #[.int .i64 frm, .int .i64 n, .slice A3 bs.length c3] 93)).heap.size _).alloc (Nat.le_refl _) (.cells #[.int .i64 frm, .int .i64 n, .slice A3 bs.length c3] 93))) (by simp)
          have k0 : _ = some (Value.int .i64 frm) := hka.cell 0
          have k1 : _ = some (Value.int .i64 n) := hka.cell 1
          have k2 : _ = some (Value.slice A3 bs.length c3) := hka.cell 2
          have HO2 := Lib.hid ((HO.out.alloc (.cells #[.int .i64 frm, .int .i64 n, .slice A3 bs.length c3] 93)).alloc (.cells #[.int .i64 frm, .int .i64 n, .slice A3 bs.length c3] 93))
          have HRB := Lib.hid (Rp.ext _ (Rp.ext _ (Rp.sub _ HVB.out (T := (· < wr.heap.size)) (fun j hj => Nat.lt_of_lt_of_le hj hwsz)) ((Below.refl _ _).alloc (Nat.le_refl _) (.cells #[.int .i64 frm, .int .i64 n, .slice A3 bs.length c3] 93))) ((Below.refl _ _).alloc (Nat.le_refl _) (.cells #[.int .i64 frm, .int .i64 n, .slice A3 bs.length c3] 93)))
          have hsc : wr.heap.size < ((wr.alloc (.cells #[.int .i64 frm, .int .i64 n, .slice A3 bs.length c3] 93)).alloc (.cells #[.int .i64 frm, .int .i64 n, .slice A3 bs.length c3] 93)).heap.size := by simp; omega
          clear HNF HNR HNN HCL hgood hrange hkb hka hlen
          by_cases hn0 : 0 < n
          · have hcb : cpBytes ⟨(frm : Int), (n : Int), bs⟩ = 1 :: (twoB frm ++ twoB n) := by rw [cpBytes, if_pos (by simpa using hn0)]; simp
            rw [hcb] at HST
            clear hcl hcb
            go_wp2_with fail
            refine (isCopy_any frm n A3 bs.length c3 _ (by omega)).mono ?_
            rintro e w1 ⟨rfl, rfl⟩
            rw [hcf]
            go_wp2_with fail
            refine (within_any frm 0 3000 _).mono ?_
            rintro e w1 ⟨rfl, rfl⟩
            rw [hw1]
            go_wp2_with fail
            refine (within_any n 0 3000 _).mono ?_
            rintro e w1 ⟨rfl, rfl⟩
            rw [hw2]
            go_wp2
            generalize ((wr.alloc (.cells #[.int .i64 frm, .int .i64 n, .slice A3 bs.length c3] 93)).alloc (.cells #[.int .i64 frm, .int .i64 n, .slice A3 bs.length c3] 93)) = wc at *
            have HRO := Lib.hid (show RdN wc (.slice A5 m c5) (dBytes (l.take k)) from Rp.u8_own HO2.out (fun g hg => (HO2.out.lt g hg).2))
            have hszc : w.heap.size ≤ wc.heap.size := HBC.out.size
            go_region_held3 (fun w' => w'.cell? ⟨wr.heap.size, 0, none⟩ = some (.int .i64 frm) ∧ w'.cell? ⟨wr.heap.size, 1, none⟩ = some (.int .i64 n)) (first | exact ⟨k0, k1⟩ | (refine ⟨?_, ?_⟩ <;> repeat' (first | (with_reducible exact k0) | (with_reducible exact k1) | (with_reducible refine cell_alloc _ ?_) | (with_reducible refine cell_drew ?_)))) (first
              | (go_at_call 82; refine (two_any _ _ (by omega)).mono ?_; rintro e w1 ⟨rfl, rfl⟩)
              | (go_at_call 81; refine (concat_any _ [dBytes (l.take k), [1], twoB frm, twoB n] _ (by (first | (with_reducible refine four_read' ?_ ?_ ?_ ?_ ?_) | (with_reducible refine four_read ?_ ?_ ?_ ?_ ?_)) <;> repeat' (first | (with_reducible exact HRO.out) | (with_reducible exact HRB.out) | (with_reducible refine rd_one 1 ?_ ?_ ?_ ?_) | (with_reducible refine rd_two _ ?_) | (with_reducible refine rd_alloc _ ?_) | (with_reducible refine rd_drew ?_) | decide | simp)) (by simp [twoB, HM.out]; omega)).mono ?_; rintro e w2 ⟨v2, rfl, ho2, hb2⟩; have HOX := Lib.hid (World.ownsRow.mono ho2 (show w.heap.size ≤ _ from by simp; omega)); have HBX : Hid (Below w.heap.size w w2) := Lib.hid (Below.trans (by repeat' (first | (with_reducible exact HBC.out) | (with_reducible refine Below.alloc ?_ ?_ _) | (with_reducible refine Below.drew ?_) | omega | (simp; omega))) (hb2.mono (by simp; omega))); have k0 : w2.cell? ⟨wr.heap.size, 0, none⟩ = some (.int .i64 frm) := ((same_below hb2).cell (show wr.heap.size < _ from by simp; omega)).trans (by repeat' (first | (with_reducible exact k0) | (with_reducible refine cell_alloc _ ?_) | (with_reducible refine cell_drew ?_))); have k1 : w2.cell? ⟨wr.heap.size, 1, none⟩ = some (.int .i64 n) := ((same_below hb2).cell (show wr.heap.size < _ from by simp; omega)).trans (by repeat' (first | (with_reducible exact k1) | (with_reducible refine cell_alloc _ ?_) | (with_reducible refine cell_drew ?_))); clear ho2 hb2))
            all_goals
              go_wp2
              go_roundw
              case rel =>
                refine ⟨k + 1, by omega, by go_num, ?_, HSUM.out, HC2, HBX⟩
                have e1 : dBytes (l.take (k + 1)) = [dBytes (l.take k), [1], twoB frm, twoB n].flatten := by rw [HST.out]; simp
                rw [e1]
                exact HOX.out
              case measure => simp [intOf]; omega
          · obtain rfl : n = 0 := by omega
            have hcb : cpBytes ⟨(frm : Int), ((0 : Nat) : Int), bs⟩ = 2 :: (twoB bs.length ++ bs) := by rw [cpBytes, if_neg (by simp)]
            rw [hcb] at HST
            clear hcl hcb
            have hcf : cpB frm 0 bs.length = true := hcf
            have hw2 : withinB 0 0 3000 = true := hw2
            have HRB : Hid (RdN ((wr.alloc (.cells #[.int .i64 frm, .int .i64 ((0 : Nat) : Int), .slice A3 bs.length c3] 93)).alloc (.cells #[.int .i64 frm, .int .i64 ((0 : Nat) : Int), .slice A3 bs.length c3] 93)) (.slice A3 bs.length c3) bs) := HRB
            rw [show (Value.int .i64 ((0 : Nat) : Int)) = .int .i64 0 from rfl] at HO2 HRB HBC HHB k0 k1 k2 hsc
            go_wp2_with fail
            refine (isCopy_any frm 0 A3 bs.length c3 _ (by omega)).mono ?_
            rintro e w1 ⟨rfl, rfl⟩
            rw [hcf]
            go_wp2_with fail
            refine (within_any frm 0 3000 _).mono ?_
            rintro e w1 ⟨rfl, rfl⟩
            rw [hw1]
            go_wp2_with fail
            refine (within_any 0 0 3000 _).mono ?_
            rintro e w1 ⟨rfl, rfl⟩
            rw [hw2]
            go_wp2
            generalize ((wr.alloc (.cells #[.int .i64 frm, .int .i64 0, .slice A3 bs.length c3] 93)).alloc (.cells #[.int .i64 frm, .int .i64 0, .slice A3 bs.length c3] 93)) = wc at *
            have HRO := Lib.hid (show RdN wc (.slice A5 m c5) (dBytes (l.take k)) from Rp.u8_own HO2.out (fun g hg => (HO2.out.lt g hg).2))
            have hszc : w.heap.size ≤ wc.heap.size := HBC.out.size
            go_region_held3 (fun w' => w'.cell? ⟨wr.heap.size, 2, none⟩ = some (.slice A3 bs.length c3)) (first | exact k2 | (repeat' (first | (with_reducible exact k2) | (with_reducible refine cell_alloc _ ?_) | (with_reducible refine cell_drew ?_)))) (first
              | (go_at_call 82; refine (two_any _ _ (by omega)).mono ?_; rintro e w1 ⟨rfl, rfl⟩)
              | (go_at_call 81; refine (concat_any _ [dBytes (l.take k), [2], twoB bs.length, bs] _ (by (first | (with_reducible refine four_read' ?_ ?_ ?_ ?_ ?_) | (with_reducible refine four_read ?_ ?_ ?_ ?_ ?_)) <;> repeat' (first | (with_reducible exact HRO.out) | (with_reducible exact HRB.out) | (with_reducible refine rd_one 2 ?_ ?_ ?_ ?_) | (with_reducible refine rd_two _ ?_) | (with_reducible refine rd_alloc _ ?_) | (with_reducible refine rd_drew ?_) | decide | simp)) (by simp [twoB, HM.out]; omega)).mono ?_; rintro e w2 ⟨v2, rfl, ho2, hb2⟩; have HOX := Lib.hid (World.ownsRow.mono ho2 (show w.heap.size ≤ _ from by simp; omega)); have HBX : Hid (Below w.heap.size w w2) := Lib.hid (Below.trans (by repeat' (first | (with_reducible exact HBC.out) | (with_reducible refine Below.alloc ?_ ?_ _) | (with_reducible refine Below.drew ?_) | omega | (simp; omega))) (hb2.mono (by simp; omega))); have k2 : w2.cell? ⟨wr.heap.size, 2, none⟩ = some (.slice A3 bs.length c3) := ((same_below hb2).cell (show wr.heap.size < _ from by simp; omega)).trans (by repeat' (first | (with_reducible exact k2) | (with_reducible refine cell_alloc _ ?_) | (with_reducible refine cell_drew ?_))); clear ho2 hb2))
            all_goals
              go_wp2
              go_roundw
              case rel =>
                refine ⟨k + 1, by omega, by go_num, ?_, HSUM.out, HC2, HBX⟩
                have e1 : dBytes (l.take (k + 1)) = [dBytes (l.take k), [2], twoB bs.length, bs].flatten := by rw [HST.out]; simp
                rw [e1]
                exact HOX.out
              case measure => simp [intOf]; omega
      · have hcf : cpB frm n bs.length = false := decide_eq_false hgood
        have HP := Lib.hid (fun w' h => dbPost_bad (l := l) (w := w) (w' := w') (f := 3) (by rw [HF0.out, HC.out, HNF.out hgood]; rfl) (by decide) h)
        clear hgood
        go_wp2_with fail
        refine (isCopy_any frm n A3 bs.length c3 _ (by omega)).mono ?_
        rintro e w1 ⟨rfl, rfl⟩
        rw [hcf]
        go_wp2
        go_ret2
        exact HP.out _ HHB.out
    · obtain rfl : k = l.length := by omega
      have hc0 : dbChk l = 0 := by rw [HC.out, List.drop_length]; rfl
      have htl : m = (dBytes l).length := by rw [← HM.out, List.take_length]
      rw [hc0] at HF0
      rw [if_neg (by decide), ← htl] at HF0
      rw [List.take_length] at HO
      have HTL := Lib.hid htl
      clear hc0 htl
      by_cases hbig : 20000 < m
      · have HP := Lib.hid (dbPost_bad (l := l) (w := w) (w' := wr) (f := 2) (by rw [HF0.out, if_pos hbig]) (by decide) HB.out)
        go_wp2
        go_ret2
        exact HP.out
      · have HP := Lib.hid (dbPost_good (Nat.le_refl w.heap.size) (by rw [HF0.out, if_neg hbig]) (by rw [← HTL.out]; exact HO.out) HB.out)
        go_wp2
        go_ret2
        exact HP.out
end Go.Proofs.Ytofahmdjhpbecaa
