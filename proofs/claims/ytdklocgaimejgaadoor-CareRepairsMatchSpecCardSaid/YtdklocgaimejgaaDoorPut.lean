/-
  'put' of the reference.
-/
import Derived.Test.YtdklocgaimejgaaDoorAfSt
namespace Go.Proofs.YtdklocgaimejgaaDoor
open Go.RowKit
set_option linter.unusedVariables false
set_option linter.unusedSimpArgs false

def PutPost (B : Nat) (L : List Held) (h : Held) (vo : Value) (w : World) (e : Ending) (w' : World) : Prop :=
  ∃ v, e = .returned v ∧ w'.ownsRow B 47 3 v (putL L h).length ((putL L h).flatMap heldCells) ∧ w.grownBy w' vo.ownBlock
theorem grown_via {w a b c d : World} {row : Option Nat} (h1 : Drawn a b) (h2 : Below w.heap.size w a) (h3 : Below b.heap.size b c) (h4 : c.grownBy d row) : w.grownBy d row := by
  have hb := ext_trans (h1.below h2) (h3.mono (Nat.le_refl _))
  exact ⟨h4.os.trans hb.os, h4.tape.trans hb.tape, h4.output.trans hb.output, Nat.le_trans hb.size h4.size, fun k hk hne => (h4.block k (Nat.lt_of_lt_of_le hk hb.size) hne).trans (hb.block k hk)⟩
theorem set_mid {α : Type} (A B C : List α) (j : Nat) {u : α} (hj : j < B.length) {p : Nat} (hp : p = A.length + j) : (A ++ (B ++ C)).set p u = A ++ (B.set j u ++ C) := by
  subst hp
  rw [List.set_append_right _ _ (by omega), Nat.add_sub_cancel_left, List.set_append_left _ _ hj]
theorem flat_set3 (L : List Held) (i : Nat) (h : i < L.length) (x : Held) : (((L.flatMap heldCells).set (i * 3) (.string (bstr x.item))).set (i * 3 + 1) (.string (bstr x.site))).set (i * 3 + 2) (.string (bstr x.digest)) = (L.set i x).flatMap heldCells := by
  conv => lhs; rw [← List.take_append_drop i L, List.drop_eq_getElem_cons h, List.flatMap_append, List.flatMap_cons]
  have hl : ((L.take i).flatMap heldCells).length = i * 3 := by rw [held_flat_len, List.length_take, Nat.min_eq_left (by omega)]
  rw [set_mid _ _ _ 0 (by simp [heldCells]) (by omega), set_mid _ _ _ 1 (by simp [heldCells]) (by omega), set_mid _ _ _ 2 (by simp [heldCells]) (by omega),
    show (((heldCells L[i]).set 0 (.string (bstr x.item))).set 1 (.string (bstr x.site))).set 2 (.string (bstr x.digest)) = heldCells x from rfl, List.set_eq_take_append_cons_drop, if_pos h, List.flatMap_append, List.flatMap_cons]
theorem own_put3 {w : World} {B g c i : Nat} {L : List Held} (h : w.ownsRow B 47 3 (.slice (some ⟨g, 0, none⟩) L.length c) L.length (L.flatMap heldCells)) (hi : i < L.length) (x : Held) :
    (((w.setCell ⟨g, i * 3, none⟩ (.string (bstr x.item))).setCell ⟨g, i * 3 + 1, none⟩ (.string (bstr x.site))).setCell ⟨g, i * 3 + 2, none⟩ (.string (bstr x.digest))).ownsRow B 47 3 (.slice (some ⟨g, 0, none⟩) L.length c) (L.set i x).length ((L.set i x).flatMap heldCells) := by
  rw [List.length_set, ← flat_set3 L i hi x]
  exact own_set (own_set (own_set h (by omega) _) (by omega) _) (by omega) _
theorem own_cell {w : World} {B g c i : Nat} {L : List Held} (h : w.ownsRow B 47 3 (.slice (some ⟨g, 0, none⟩) L.length c) L.length (L.flatMap heldCells)) (hi : i < L.length) (j : Nat) (hj : j < 3) :
    ∃ u, w.cell? ⟨g, i * 3 + j, none⟩ = some u ∧ w.frozen? ⟨g, i * 3 + j, none⟩ = false := by
  have hlt : i * 3 + j < (L.flatMap heldCells).length := by rw [held_flat_len]; omega
  have hc := h.cells (g := g) rfl (i * 3 + j) _ (List.getElem?_eq_getElem hlt)
  rw [show (⟨g, 0, none⟩ : Addr).add (i * 3 + j) = ⟨g, i * 3 + j, none⟩ by unfold Addr.add; split <;> simp_all] at hc
  refine ⟨_, hc, ?_⟩
  rcases h.2 with ⟨h1, _⟩ | ⟨g', cap, cur, h1, hb, hh, h2, h3, h4, h5⟩
  · cases h1
  · injection h1 with h1 _ h6
    injection h1 with h1
    injection h1 with h1
    subst h1
    simp [World.frozen?, hh]
theorem grown_via3 {w a b : World} (h1 : Drawn a b) (h2 : Below w.heap.size w a) (g p : Nat) (u v x : Value) : w.grownBy (((b.setCell ⟨g, p, none⟩ u).setCell ⟨g, p + 1, none⟩ v).setCell ⟨g, p + 2, none⟩ x) (some g) :=
  grown_via h1 h2 (Below.refl _ _) ⟨rfl, rfl, rfl, by simp [World.setCell], fun k hk hne => by
    have hkg : k ≠ g := fun e => hne (by rw [e])
    rw [heap_setCell_other _ _ _ _ hkg, heap_setCell_other _ _ _ _ hkg, heap_setCell_other _ _ _ _ hkg]⟩
set_option maxRecDepth 100000 in
set_option maxHeartbeats 8000000 in
theorem put_any (A : Option Addr) (c B : Nat) (L : List Held) (h : Held) (w : World) (ho : w.ownsRow B 47 3 (.slice A L.length c) L.length (L.flatMap heldCells)) (hB : B ≤ w.heap.size) (hL : L.length ≤ 50000) (hz : ∀ x ∈ L, HSz x) :
    Calls Tryd.prog 38 #[.slice A L.length c, .agg #[.string (bstr h.item), .string (bstr h.site), .string (bstr h.digest)]] w (PutPost B L h (.slice A L.length c) w) := by
  have hal := (Below.refl w.heap.size w).alloc (Nat.le_refl _) (.cells #[.string (bstr h.item), .string (bstr h.site), .string (bstr h.digest)] 47)
  have HO := Lib.hid (own_below ho hal)
  have HRD := Lib.hid (held_read HO.out hz)
  have HK := Lib.hid (Blk.new w 47 [.string (bstr h.item), .string (bstr h.site), .string (bstr h.digest)])
  have HAL := Lib.hid hal
  obtain ⟨A', c', e1, hcL, hcm, _⟩ := own_form ho
  cases e1
  unfold maxLen at hcm
  have hbA : B ≤ (w.alloc (.cells #[.string (bstr h.item), .string (bstr h.site), .string (bstr h.digest)] 47)).heap.size := Nat.le_trans hB hal.size
  clear ho hal hz
  go_enter Tryd.func38, Tryd.ntmps38
  go_wp2_with fail
  obtain ⟨wA, hwA⟩ : ∃ wA, w.alloc (.cells #[.string (bstr h.item), .string (bstr h.site), .string (bstr h.digest)] 47) = wA := ⟨_, rfl⟩
  rw [hwA] at HO HRD HK HAL hbA ⊢
  clear hwA
  go_loopw [5] (fun vi wr => ∃ i : Nat, i ≤ L.length ∧ vi = .int .i64 i ∧ Hid (∀ q, q < i → ∀ hq : q < L.length, heldCmp L[q] h < 0) ∧ Hid (Drawn wA wr)) (fun vi _ => L.length - (intOf vi).toNat)
  case atStart => exact ⟨0, by omega, rfl, (fun q hq => absurd hq (by omega)), Drawn.refl _⟩
  case round =>
    obtain ⟨i, hi, rfl, HI, HD⟩ := hrel
    have hkk := (HK.out.same (HD.out.same (fun k => k = w.heap.size)) rfl : Blk _ w.heap.size 47 [.string (bstr h.item), .string (bstr h.site), .string (bstr h.digest)])
    have h0 : wr.cell? ⟨w.heap.size, 0, none⟩ = some (.string (bstr h.item)) := hkk.cell 0
    have h1 : wr.cell? ⟨w.heap.size, 1, none⟩ = some (.string (bstr h.site)) := hkk.cell 1
    have h2 : wr.cell? ⟨w.heap.size, 2, none⟩ = some (.string (bstr h.digest)) := hkk.cell 2
    clear hkk
    by_cases hlt : i < L.length
    · obtain ⟨ad, c2, e1, hadb, p0, p1, p2, hy1, hy2, hy3⟩ := held_at (Rp.drawn _ HRD.out HD.out) hlt
      cases e1
      have HNX : Hid (heldCmp L[i] h < 0 → ∀ q, q < i + 1 → ∀ hq : q < L.length, heldCmp L[q] h < 0) := Lib.hid (fun hy q hq hql => by
        by_cases e : q = i
        · subst e; exact hy
        · exact HI.out q (by omega) hql)
      have HLB0 : Hid (¬ heldCmp L[i] h < 0 → lbN L h = i) := Lib.hid (fun hy => lbN_at L h i hi HI.out (fun _ => hy))
      have HNZ0 : Hid (heldCmp L[i] h ≠ 0 → ∀ hl : i < L.length, heldCmp (L[i]'hl) h ≠ 0) := Lib.hid (fun hy _ => hy)
      have HHT : Hid (lbN L h = i → heldCmp L[i] h = 0 → putL L h = L.set i h) := Lib.hid (fun e he => by
        have := putL_hit L h (by rw [e]; exact hlt) (by simp only [e]; exact he)
        rwa [e] at this)
      clear hadb
      generalize L[i] = y at *
      have hm0 : (0 : Int) ≤ (i : Int) := by omega
      have hmL : (i : Int) < (L.length : Int) := by omega
      go_wp2_with fail
      cases q1 : slt y.item h.item with
      | true =>
        have b1 : Op.bytesLess (bstr y.item).toList (bstr h.item).toList = true := by rw [slt_eq]; exact q1
        have HN := Lib.hid (HNX.out ((hc_lt y h).2 (.inl q1)))
        clear q1
        go_quiet (fail)
        have HDX := Lib.hid (HD.out.more nq)
        clear h0 h1 h2 p0 p1 p2
        go_wp2_with fail
        go_roundw
        case rel => exact ⟨i + 1, by omega, by go_num, HN.out, HDX.out⟩
        case measure => simp [intOf]; omega
      | false =>
      have b1 : Op.bytesLess (bstr y.item).toList (bstr h.item).toList = false := by rw [slt_eq]; exact q1
      by_cases q2 : y.item = h.item
      · have b2 : ((bstr y.item).toList == (bstr h.item).toList) = true := str_beq (by rw [q2])
        cases q3 : slt y.site h.site with
        | true =>
          have b3 : Op.bytesLess (bstr y.site).toList (bstr h.site).toList = true := by rw [slt_eq]; exact q3
          have HN := Lib.hid (HNX.out ((hc_lt y h).2 (.inr ⟨q2, q3⟩)))
          clear q1 q2 q3
          go_quiet (fail)
          have HDX := Lib.hid (HD.out.more nq)
          clear h0 h1 h2 p0 p1 p2
          go_wp2_with fail
          go_roundw
          case rel => exact ⟨i + 1, by omega, by go_num, HN.out, HDX.out⟩
          case measure => simp [intOf]; omega
        | false =>
        have b3 : Op.bytesLess (bstr y.site).toList (bstr h.site).toList = false := by rw [slt_eq]; exact q3
        have HLB := Lib.hid (HLB0.out (Int.not_lt.1 (fun e => by rcases (hc_lt y h).1 e with e | ⟨_, e⟩; exact absurd (q1.symm.trans e) (by decide); exact absurd (q3.symm.trans e) (by decide))))
        by_cases q4 : y.site = h.site
        · have b4 : ((bstr y.site).toList == (bstr h.site).toList) = true := str_beq (by rw [q4])
          have HPUT := Lib.hid (HHT.out HLB.out ((hc_eq y h).2 ⟨q2, q4⟩))
          clear q1 q2 q3 q4
          go_quiet (fail)
          have HDX0 := Lib.hid (HD.out.more nq)
          go_wp2_with fail
          go_quiet (fail)
          have HDX := Lib.hid (HDX0.out.more nq)
          generalize World.drewN _ nq = wq at HDX ⊢
          obtain ⟨g, rfl⟩ : ∃ g, ad = ⟨g, 0, none⟩ := by
            rcases HO.out.2 with ⟨e1, e2⟩ | ⟨g, cap, cur, e1, _⟩
            · cases e1
            · injection e1 with e1 _ _; injection e1 with e1; exact ⟨g, e1⟩
          have HKA := Lib.hid ((HK.out.same (HDX.out.same (fun k => k = w.heap.size)) rfl : Blk wq w.heap.size 47 [.string (bstr h.item), .string (bstr h.site), .string (bstr h.digest)]))
          have t0 : wq.cell? ⟨w.heap.size, 0, none⟩ = some (.string (bstr h.item)) := HKA.out.cell 0
          have t1 : wq.cell? ⟨w.heap.size, 1, none⟩ = some (.string (bstr h.site)) := HKA.out.cell 1
          have t2 : wq.cell? ⟨w.heap.size, 2, none⟩ = some (.string (bstr h.digest)) := HKA.out.cell 2
          have HRA := Lib.hid (HDX.out.own HO.out)
          have hc0 := own_cell HRA.out hlt 0 (by decide)
          have hc1 := own_cell HRA.out hlt 1 (by decide)
          have hc2 := own_cell HRA.out hlt 2 (by decide)
          rw [Nat.add_zero] at hc0
          obtain ⟨u0, e0, f0⟩ := hc0
          obtain ⟨u1, e1, f1⟩ := hc1
          obtain ⟨u2, e2, f2⟩ := hc2
          clear h0 h1 h2 p0 p1 p2
          go_wp2_with fail
          go_ret
          exact ⟨_, rfl, by rw [HPUT.out]; exact own_put3 HRA.out hlt h, grown_via3 HDX.out HAL.out g (i * 3) _ _ _⟩
        · have b4 : ((bstr y.site).toList == (bstr h.site).toList) = false := str_bne (fun e => q4 (bstr_inj e))
          have HNZ := Lib.hid (HNZ0.out (fun e => q4 ((hc_eq y h).1 e).2))
          clear q1 q2 q3 q4
          go_quiet (fail)
          have HDX0 := Lib.hid (HD.out.more nq)
          go_wp2_with fail
          go_quiet (fail)
          have HDX := Lib.hid (HDX0.out.more nq)
          generalize World.drewN _ nq = wq at HDX ⊢
          have HPM : Hid (putL L h = L.take i ++ h :: L.drop i) := Lib.hid (by have := putL_miss L h (fun hl => by simp only [HLB.out] at hl ⊢; exact HNZ.out hl); rwa [HLB.out] at this)
          have HFI := Lib.hid (flat_ins L i hi h)
          have hlL : (L.take i ++ h :: L.drop i).length = L.length + 1 := by
            rw [List.length_append, List.length_take, List.length_cons, List.length_drop]; omega
          have HKA := Lib.hid ((HK.out.same (HDX.out.same (fun k => k = w.heap.size)) rfl : Blk wq w.heap.size 47 [.string (bstr h.item), .string (bstr h.site), .string (bstr h.digest)]))
          have t0 : wq.cell? ⟨w.heap.size, 0, none⟩ = some (.string (bstr h.item)) := HKA.out.cell 0
          have t1 : wq.cell? ⟨w.heap.size, 1, none⟩ = some (.string (bstr h.site)) := HKA.out.cell 1
          have t2 : wq.cell? ⟨w.heap.size, 2, none⟩ = some (.string (bstr h.digest)) := HKA.out.cell 2
          have HRA := Lib.hid (HDX.out.own HO.out)
          have hszA : B ≤ wq.heap.size := by rw [HDX.out.size]; exact hbA
          have HBN := Lib.hid ((Below.refl wq.heap.size wq).alloc (Nat.le_refl _) (.cells #[.string (bstr h.item), .string (bstr h.site), .string (bstr h.digest)] 47))
          have HRN := Lib.hid (own_below HRA.out HBN.out)
          have HNE : Hid (some wq.heap.size ≠ (Value.slice (some ad) L.length c).ownBlock) := Lib.hid (fun e => by have := (HRA.out.lt _ e.symm).2; omega)
          have HBK := Lib.hid (Blk.new wq 47 [.string (bstr h.item), .string (bstr h.site), .string (bstr h.digest)])
          have hszN := HBN.out.size
          go_wp2_with fail
          clear t0 t1 t2
          refine (insHeld_any _ L.length i B wq.heap.size (L.flatMap heldCells) [.string (bstr h.item), .string (bstr h.site), .string (bstr h.digest)] _ HRN.out (by omega) hi (by omega) rfl (by simp [Value.oneCell']) (fun u hu => by obtain ⟨y, _, hy⟩ := List.mem_flatMap.1 hu; simp [heldCells] at hy; rcases hy with rfl | rfl | rfl <;> rfl) HBK.out HNE.out).mono ?_
          rintro e w11 ⟨g, c', rfl, hown, hg, _⟩
          have hown2 : w11.ownsRow B 47 3 (.slice (some ⟨g, 0, none⟩) (L.length + 1) c') (L.length + 1) ((putL L h).flatMap heldCells) := by rw [HPM.out, ← HFI.out]; exact hown
          have HP := Lib.hid (show PutPost B L h (.slice (some ad) L.length c) w (.returned (.slice (some ⟨g, 0, none⟩) (L.length + 1) c')) w11 from ⟨_, rfl, by rw [show (putL L h).length = L.length + 1 by rw [HPM.out, hlL]]; exact hown2, grown_via HDX.out HAL.out HBN.out hg⟩)
          clear hown hown2 hg
          go_wp2_with fail
          go_ret
          exact HP.out
      · have b2 : ((bstr y.item).toList == (bstr h.item).toList) = false := str_bne (fun e => q2 (bstr_inj e))
        have HLB := Lib.hid (HLB0.out (Int.not_lt.1 (fun e => by rcases (hc_lt y h).1 e with e | ⟨e, _⟩; exact absurd (q1.symm.trans e) (by decide); exact q2 e)))
        have HNZ := Lib.hid (HNZ0.out (fun e => q2 ((hc_eq y h).1 e).1))
        clear q1 q2
        go_quiet (fail)
        have HDX0 := Lib.hid (HD.out.more nq)
        go_wp2_with fail
        go_quiet (fail)
        have HDX := Lib.hid (HDX0.out.more nq)
        generalize World.drewN _ nq = wq at HDX ⊢
        have HPM : Hid (putL L h = L.take i ++ h :: L.drop i) := Lib.hid (by have := putL_miss L h (fun hl => by simp only [HLB.out] at hl ⊢; exact HNZ.out hl); rwa [HLB.out] at this)
        have HFI := Lib.hid (flat_ins L i hi h)
        have hlL : (L.take i ++ h :: L.drop i).length = L.length + 1 := by
          rw [List.length_append, List.length_take, List.length_cons, List.length_drop]; omega
        have HKA := Lib.hid ((HK.out.same (HDX.out.same (fun k => k = w.heap.size)) rfl : Blk wq w.heap.size 47 [.string (bstr h.item), .string (bstr h.site), .string (bstr h.digest)]))
        have t0 : wq.cell? ⟨w.heap.size, 0, none⟩ = some (.string (bstr h.item)) := HKA.out.cell 0
        have t1 : wq.cell? ⟨w.heap.size, 1, none⟩ = some (.string (bstr h.site)) := HKA.out.cell 1
        have t2 : wq.cell? ⟨w.heap.size, 2, none⟩ = some (.string (bstr h.digest)) := HKA.out.cell 2
        have HRA := Lib.hid (HDX.out.own HO.out)
        have hszA : B ≤ wq.heap.size := by rw [HDX.out.size]; exact hbA
        have HBN := Lib.hid ((Below.refl wq.heap.size wq).alloc (Nat.le_refl _) (.cells #[.string (bstr h.item), .string (bstr h.site), .string (bstr h.digest)] 47))
        have HRN := Lib.hid (own_below HRA.out HBN.out)
        have HNE : Hid (some wq.heap.size ≠ (Value.slice (some ad) L.length c).ownBlock) := Lib.hid (fun e => by have := (HRA.out.lt _ e.symm).2; omega)
        have HBK := Lib.hid (Blk.new wq 47 [.string (bstr h.item), .string (bstr h.site), .string (bstr h.digest)])
        have hszN := HBN.out.size
        go_wp2_with fail
        clear t0 t1 t2
        refine (insHeld_any _ L.length i B wq.heap.size (L.flatMap heldCells) [.string (bstr h.item), .string (bstr h.site), .string (bstr h.digest)] _ HRN.out (by omega) hi (by omega) rfl (by simp [Value.oneCell']) (fun u hu => by obtain ⟨y, _, hy⟩ := List.mem_flatMap.1 hu; simp [heldCells] at hy; rcases hy with rfl | rfl | rfl <;> rfl) HBK.out HNE.out).mono ?_
        rintro e w11 ⟨g, c', rfl, hown, hg, _⟩
        have hown2 : w11.ownsRow B 47 3 (.slice (some ⟨g, 0, none⟩) (L.length + 1) c') (L.length + 1) ((putL L h).flatMap heldCells) := by rw [HPM.out, ← HFI.out]; exact hown
        have HP := Lib.hid (show PutPost B L h (.slice (some ad) L.length c) w (.returned (.slice (some ⟨g, 0, none⟩) (L.length + 1) c')) w11 from ⟨_, rfl, by rw [show (putL L h).length = L.length + 1 by rw [HPM.out, hlL]]; exact hown2, grown_via HDX.out HAL.out HBN.out hg⟩)
        clear hown hown2 hg
        go_wp2_with fail
        go_ret
        exact HP.out
    · obtain rfl : i = L.length := by omega
      have HLB := Lib.hid (lbN_at L h L.length hi HI.out (fun hl => absurd hl (by omega)))
      have HNZ : Hid (∀ hl : L.length < L.length, heldCmp (L[L.length]'hl) h ≠ 0) := Lib.hid (fun hl => absurd hl (by omega))
      have hmL : ¬ (L.length : Int) < (L.length : Int) := by omega
      go_wp2_with fail
      go_quiet (fail)
      have HDX0 := Lib.hid (HD.out.more nq)
      go_wp2_with fail
      go_quiet (fail)
      have HDX := Lib.hid (HDX0.out.more nq)
      generalize World.drewN _ nq = wq at HDX ⊢
      have HPM : Hid (putL L h = L.take L.length ++ h :: L.drop L.length) := Lib.hid (by have := putL_miss L h (fun hl => by simp only [HLB.out] at hl ⊢; exact HNZ.out hl); rwa [HLB.out] at this)
      have HFI := Lib.hid (flat_ins L L.length hi h)
      have hlL : (L.take L.length ++ h :: L.drop L.length).length = L.length + 1 := by
        rw [List.length_append, List.length_take, List.length_cons, List.length_drop]; omega
      have HKA := Lib.hid ((HK.out.same (HDX.out.same (fun k => k = w.heap.size)) rfl : Blk wq w.heap.size 47 [.string (bstr h.item), .string (bstr h.site), .string (bstr h.digest)]))
      have t0 : wq.cell? ⟨w.heap.size, 0, none⟩ = some (.string (bstr h.item)) := HKA.out.cell 0
      have t1 : wq.cell? ⟨w.heap.size, 1, none⟩ = some (.string (bstr h.site)) := HKA.out.cell 1
      have t2 : wq.cell? ⟨w.heap.size, 2, none⟩ = some (.string (bstr h.digest)) := HKA.out.cell 2
      have HRA := Lib.hid (HDX.out.own HO.out)
      have hszA : B ≤ wq.heap.size := by rw [HDX.out.size]; exact hbA
      have HBN := Lib.hid ((Below.refl wq.heap.size wq).alloc (Nat.le_refl _) (.cells #[.string (bstr h.item), .string (bstr h.site), .string (bstr h.digest)] 47))
      have HRN := Lib.hid (own_below HRA.out HBN.out)
      have HNE : Hid (some wq.heap.size ≠ (Value.slice A L.length c).ownBlock) := Lib.hid (fun e => by have := (HRA.out.lt _ e.symm).2; omega)
      have HBK := Lib.hid (Blk.new wq 47 [.string (bstr h.item), .string (bstr h.site), .string (bstr h.digest)])
      have hszN := HBN.out.size
      go_wp2_with fail
      clear t0 t1 t2
      refine (insHeld_any _ L.length L.length B wq.heap.size (L.flatMap heldCells) [.string (bstr h.item), .string (bstr h.site), .string (bstr h.digest)] _ HRN.out (by omega) hi (by omega) rfl (by simp [Value.oneCell']) (fun u hu => by obtain ⟨y, _, hy⟩ := List.mem_flatMap.1 hu; simp [heldCells] at hy; rcases hy with rfl | rfl | rfl <;> rfl) HBK.out HNE.out).mono ?_
      rintro e w11 ⟨g, c', rfl, hown, hg, _⟩
      have hown2 : w11.ownsRow B 47 3 (.slice (some ⟨g, 0, none⟩) (L.length + 1) c') (L.length + 1) ((putL L h).flatMap heldCells) := by rw [HPM.out, ← HFI.out]; exact hown
      have HP := Lib.hid (show PutPost B L h (.slice A L.length c) w (.returned (.slice (some ⟨g, 0, none⟩) (L.length + 1) c')) w11 from ⟨_, rfl, by rw [show (putL L h).length = L.length + 1 by rw [HPM.out, hlL]]; exact hown2, grown_via HDX.out HAL.out HBN.out hg⟩)
      clear hown hown2 hg
      go_wp2_with fail
      go_ret
      exact HP.out
end Go.Proofs.YtdklocgaimejgaaDoor
