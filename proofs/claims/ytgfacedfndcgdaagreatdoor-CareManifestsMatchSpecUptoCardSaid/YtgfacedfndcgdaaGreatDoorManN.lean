/-
  Manifest of the reference of chapter 11.
-/
import Derived.Test.YtgfacedfndcgdaaGreatDoorManI
import Derived.Test.YtgfacedfndcgdaaGreatDoorRefPack
import Derived.Deep.RegionHeld
namespace Go.Proofs.YtgfacedfndcgdaaGreatDoor
open Go.RowKit
set_option linter.unusedVariables false
set_option linter.unusedSimpArgs false

set_option maxRecDepth 100000 in
set_option maxHeartbeats 4000000 in
theorem refBody_any (n : List UInt8) (v : Value) (l : List Ent) (w : World) (h : (Rp.sl entRp).ok w (· < w.heap.size) [v] l) (hT : TI w) (hp : packFault n l = 0) :
    Calls Tryz.prog 15 #[.agg #[.string (bstr n), v]] w fun e w' => e = .returned (.string (bstr (manBody n l))) ∧ Below w.heap.size w w' := by
  obtain ⟨A, c, rfl, hl, hc, _⟩ := Rp.sl_open h
  unfold maxLen at hc
  have hab := (Below.refl w.heap.size w).alloc (Nat.le_refl _) (.cells #[.string (bstr n), .slice A l.length c] 24)
  have hkb := Blk.new w 24 [.string (bstr n), .slice A l.length c]
  have H1 := Lib.hid (Rp.ext _ h hab)
  have HT1 := Lib.hid (hT.ext hab)
  have HB1 := Lib.hid hab
  have HK1 := Lib.hid hkb
  have j0 : _ = some (Value.string (bstr n)) := hkb.cell 0
  have j1 : _ = some (Value.slice A l.length c) := hkb.cell 1
  have hlt0 : w.heap.size < (w.alloc (.cells #[.string (bstr n), .slice A l.length c] 24)).heap.size := by simp
  clear h hT hab hkb
  have HPS := Lib.hid (pack_sizes hp).2.2
  have hn40 := (pack_sizes hp).1
  have hl5 := (pack_sizes hp).2.1
  have HML := Lib.hid (mbK_len hp)
  clear hp
  have hb0 : (⟨#[112, 97, 99, 107, 97, 103, 101, 32]⟩ : ByteArray) ++ bstr n = bstr (kPack ++ [32] ++ n) := by
    have e : (⟨#[112, 97, 99, 107, 97, 103, 101, 32]⟩ : ByteArray) = bstr (kPack ++ [32]) := by rfl
    rw [e]; exact str_plus (kPack ++ [32]) n
  have hb2 : bstr (kPack ++ [32] ++ n) ++ (⟨#[10]⟩ : ByteArray) = bstr (mbK n l 0) := by rw [mbK_zero]; exact str_plus _ [10]
  have ht0 : (kPack ++ [32] ++ n).length ≤ 1008 := by simp [kPack]; omega
  have hsn : (bstr n).size = n.length := rfl
  have hs0 : (bstr (kPack ++ [32] ++ n)).size = (kPack ++ [32] ++ n).length := rfl
  generalize kPack ++ [32] ++ n = t0 at *
  go_enter Tryz.func15, Tryz.ntmps15
  go_wp2_with fail
  generalize w.alloc (.cells #[.string (bstr n), .slice A l.length c] 24) = w1 at *
  go_loopw [3, 13] (fun vt i wr => ∃ k : Nat, k ≤ l.length ∧ i = .int .i64 k ∧ vt = .string (bstr (mbK n l k)) ∧ Hid (Below w1.heap.size w1 wr)) (fun _ i _ => l.length - (intOf i).toNat)
  case atStart => exact ⟨0, by omega, rfl, rfl, Below.refl _ _⟩
  case round =>
    clear j1
    obtain ⟨k, hk, rfl, rfl, HB⟩ := hrel
    by_cases hlt : k < l.length
    · obtain ⟨ad, c', e1, hadb, c0, c1, c2, _, _⟩ := ent_at (Rp.below _ H1.out HB.out) hlt
      cases e1
      obtain ⟨⟨hz0, hz1⟩, hz2, hz3⟩ := HPS.out l[k] (List.getElem_mem _)
      have hz4 := itoa_len hz0 hz1
      have HSU := Lib.hid (mbK_succ n hlt)
      have hml := HML.out k (by omega)
      generalize hbody : mbK n l k = body at *
      generalize hx : l[k] = x at *
      have HKB : Hid (Blk (wr.alloc (.cells #[.string (bstr x.path), .int .i64 x.size, .string (bstr x.digest)] 36)) wr.heap.size 36 [.string (bstr x.path), .int .i64 x.size, .string (bstr x.digest)]) := Lib.hid (Blk.new wr 36 _)
      have HBB : Hid (Below w1.heap.size w1 (wr.alloc (.cells #[.string (bstr x.path), .int .i64 x.size, .string (bstr x.digest)] 36))) := Lib.hid (HB.out.alloc HB.out.size _)
      have hmL : (k : Int) < (l.length : Int) := by omega
      have HE : Hid (body ++ (entT x ++ [10]) = mbK n l (k + 1)) := Lib.hid HSU.out.symm
      clear HSU hadb
      go_wp2_with fail
      generalize wr.alloc (.cells #[.string (bstr x.path), .int .i64 x.size, .string (bstr x.digest)] 36) = wb at *
      generalize wr.heap.size = bl at *
      generalize hit : Lib.itoa x.size = it at *
      obtain ⟨t1, ht1⟩ : ∃ t, x.digest ++ [32] = t := ⟨_, rfl⟩
      obtain ⟨t2, ht2⟩ : ∃ t, t1 ++ it = t := ⟨_, rfl⟩
      obtain ⟨t3, ht3⟩ : ∃ t, t2 ++ [32] = t := ⟨_, rfl⟩
      obtain ⟨t4, ht4⟩ : ∃ t, t3 ++ x.path = t := ⟨_, rfl⟩
      obtain ⟨t5, ht5⟩ : ∃ t, t4 ++ [10] = t := ⟨_, rfl⟩
      have HA1 : bstr x.digest ++ (⟨#[32]⟩ : ByteArray) = bstr t1 := by rw [← ht1]; exact str_plus _ [32]
      have HA2 : bstr t1 ++ bstr it = bstr t2 := by rw [← ht2]; exact str_plus _ _
      have HA3 : bstr t2 ++ (⟨#[32]⟩ : ByteArray) = bstr t3 := by rw [← ht3]; exact str_plus _ [32]
      have HA4 : bstr t3 ++ bstr x.path = bstr t4 := by rw [← ht4]; exact str_plus _ _
      have HA5 : bstr t4 ++ (⟨#[10]⟩ : ByteArray) = bstr t5 := by rw [← ht5]; exact str_plus _ [10]
      have HT5 : t5 = entT x ++ [10] := by
        unfold entT
        rw [← ht5, ← ht4, ← ht3, ← ht2, ← ht1, hit]
        simp [List.append_assoc]
      have HA6 : bstr body ++ bstr t5 = bstr (mbK n l (k + 1)) := by rw [← HE.out, HT5]; exact str_plus _ _
      have hl1 : t1.length ≤ 21 := by rw [← ht1]; simp; omega
      have hl2 : t2.length ≤ 30 := by rw [← ht2]; simp; omega
      have hl3 : t3.length ≤ 31 := by rw [← ht3]; simp; omega
      have hl4 : t4.length ≤ 2131 := by rw [← ht4]; simp; omega
      have hl6 : t5.length ≤ 2132 := by rw [← ht5]; simp; omega
      have hmk : k < l.length := hlt
      have hmb : body.length ≤ 1104400 := by omega
      have s0 : (bstr x.digest).size = x.digest.length := rfl
      have s1 : (bstr t1).size = t1.length := rfl
      have s2 : (bstr t2).size = t2.length := rfl
      have s3 : (bstr t3).size = t3.length := rfl
      have s4 : (bstr t4).size = t4.length := rfl
      have s5 : (bstr t5).size = t5.length := rfl
      have s6 : (bstr x.path).size = x.path.length := rfl
      have s7 : (bstr it).size = it.length := rfl
      have s8 : (bstr body).size = body.length := rfl
      have p0 := HKB.out.cell 0
      have p1 := HKB.out.cell 1
      have p2 := HKB.out.cell 2
      simp only [List.getElem?_cons_zero, List.getElem?_cons_succ] at p0 p1 p2
      have KEEP : Hid (∀ w', Below wb.heap.size wb w' → (w'.cell? ⟨bl, 0, none⟩ = some (.string (bstr x.path)) ∧ w'.cell? ⟨bl, 1, none⟩ = some (.int .i64 x.size) ∧ w'.cell? ⟨bl, 2, none⟩ = some (.string (bstr x.digest)))) := Lib.hid (fun w' hb => ⟨(hb.cell (p := ⟨bl, 0, none⟩) HKB.out.lt).trans p0, (hb.cell (p := ⟨bl, 1, none⟩) HKB.out.lt).trans p1, (hb.cell (p := ⟨bl, 2, none⟩) HKB.out.lt).trans p2⟩)
      clear ht1 ht2 ht3 ht4 ht5 HT5 HE hml c0 c1 c2 hmL p0 p1 p2
      refine wp_region_held_drew (S := fun w' => w'.cell? ⟨bl, 0, none⟩ = some (.string (bstr x.path)) ∧ w'.cell? ⟨bl, 1, none⟩ = some (.int .i64 x.size) ∧ w'.cell? ⟨bl, 2, none⟩ = some (.string (bstr x.digest))) (by kernel_rfl) (KEEP.out _ (Below.drew (Below.refl _ _))) (fun hHeld => ?_)
      obtain ⟨wq, hwq⟩ : ∃ wq, wq = World.drew wb := ⟨_, rfl⟩
      have HGq : Hid (Below wb.heap.size wb wq) := Lib.hid (by rw [hwq]; exact Below.drew (Below.refl _ _))
      rw [← hwq] at hHeld ⊢
      clear hwq
      refine wpAnyH_take (i := 0) (v := ?_) rfl (by kernel_rfl) (by kernel_rfl) (by kernel_rfl) (fun _ _ _ h => h) (Or.inl ⟨by rfl, ?_⟩) (by assumption) ?_
      rotate_left
      · (intro w hSw; (try (obtain ⟨q0, q1, q2⟩ := hSw)); go_simp; (try rw [if_neg (by omega)]); try with_reducible rfl)
      try simp only [List.getElem_toArray, List.getElem_cons_succ, List.getElem_cons_zero, Act.put, List.setIfInBounds_toArray, List.set_cons_zero, List.set_cons_succ]
      refine wpAnyH_take (i := 1) (v := ?_) rfl (by kernel_rfl) (by kernel_rfl) (by kernel_rfl) (fun _ _ _ h => h) (Or.inl ⟨by rfl, ?_⟩) (by assumption) ?_
      rotate_left
      · (intro w hSw; (try (obtain ⟨q0, q1, q2⟩ := hSw)); go_simp; (try rw [if_neg (by omega)]); try with_reducible rfl)
      try simp only [List.getElem_toArray, List.getElem_cons_succ, List.getElem_cons_zero, Act.put, List.setIfInBounds_toArray, List.set_cons_zero, List.set_cons_succ]
      refine wpAnyH_take (i := 2) (v := ?_) rfl (by kernel_rfl) (by kernel_rfl) (by kernel_rfl) (fun _ _ _ h => h) (Or.inl ⟨by rfl, ?_⟩) (by assumption) ?_
      rotate_left
      · (intro w hSw; (try (obtain ⟨q0, q1, q2⟩ := hSw)); go_simp; (try rw [if_neg (by omega)]); try with_reducible rfl)
      try simp only [List.getElem_toArray, List.getElem_cons_succ, List.getElem_cons_zero, Act.put, List.setIfInBounds_toArray, List.set_cons_zero, List.set_cons_succ]
      refine wpAnyH_take (i := 3) (v := ?_) rfl (by kernel_rfl) (by kernel_rfl) (by kernel_rfl) (fun _ _ _ h => h) (Or.inl ⟨by rfl, ?_⟩) (by assumption) ?_
      rotate_left
      · (intro w hSw; (try (obtain ⟨q0, q1, q2⟩ := hSw)); go_simp; (try rw [if_neg (by omega)]); try with_reducible rfl)
      try simp only [List.getElem_toArray, List.getElem_cons_succ, List.getElem_cons_zero, Act.put, List.setIfInBounds_toArray, List.set_cons_zero, List.set_cons_succ]
      refine wpAnyH_take (i := 4) (v := ?_) rfl (by kernel_rfl) (by kernel_rfl) (by kernel_rfl) (fun _ _ _ h => h) (Or.inl ⟨by rfl, ?_⟩) (by assumption) ?_
      rotate_left
      · (intro w hSw; (try (obtain ⟨q0, q1, q2⟩ := hSw)); go_simp; (try rw [if_neg (by omega)]); try with_reducible rfl)
      try simp only [List.getElem_toArray, List.getElem_cons_succ, List.getElem_cons_zero, Act.put, List.setIfInBounds_toArray, List.set_cons_zero, List.set_cons_succ]
      refine wpAnyH_take (i := 5) (v := ?_) rfl (by kernel_rfl) (by kernel_rfl) (by kernel_rfl) (fun _ _ _ h => h) (Or.inl ⟨by rfl, ?_⟩) (by assumption) ?_
      rotate_left
      · (intro w hSw; (try (obtain ⟨q0, q1, q2⟩ := hSw)); go_simp; (try rw [if_neg (by omega)]); try with_reducible rfl)
      try simp only [List.getElem_toArray, List.getElem_cons_succ, List.getElem_cons_zero, Act.put, List.setIfInBounds_toArray, List.set_cons_zero, List.set_cons_succ]
      refine wpAnyH_take (i := 9) (v := ?_) rfl (by kernel_rfl) (by kernel_rfl) (by kernel_rfl) (fun _ _ _ h => h) (Or.inl ⟨by rfl, ?_⟩) (by assumption) ?_
      rotate_left
      · (intro w hSw; (try (obtain ⟨q0, q1, q2⟩ := hSw)); go_simp; (try rw [if_neg (by omega)]); try with_reducible rfl)
      try simp only [List.getElem_toArray, List.getElem_cons_succ, List.getElem_cons_zero, Act.put, List.setIfInBounds_toArray, List.set_cons_zero, List.set_cons_succ]
      refine wpAnyH_take (i := 10) (v := ?_) rfl (by kernel_rfl) (by kernel_rfl) (by kernel_rfl) (fun _ _ _ h => h) (Or.inl ⟨by rfl, ?_⟩) (by assumption) ?_
      rotate_left
      · (intro w hSw; (try (obtain ⟨q0, q1, q2⟩ := hSw)); go_simp; (try rw [if_neg (by omega)]); try with_reducible rfl)
      try simp only [List.getElem_toArray, List.getElem_cons_succ, List.getElem_cons_zero, Act.put, List.setIfInBounds_toArray, List.set_cons_zero, List.set_cons_succ]
      refine wpAnyH_ready (rs := [6]) (by kernel_rfl) (by simp) ?_
      refine AllReadyH.cons rfl (fun K hK => ?_) AllReadyH.nil
      rw [if_pos (by rfl)]
      simp only [List.getElem_toArray, List.getElem_cons_succ, List.getElem_cons_zero]
      go_simp
      go_at_call 12
      refine (itoa_any x.size wq (HT1.out.ext (ext_trans HBB.out HGq.out)) hz0 hz1).mono ?_
      rintro e w6 ⟨rfl, hw⟩
      have HG6 : Hid (Below wb.heap.size wb w6) := Lib.hid (HGq.out.trans (hw.mono HGq.out.size))
      clear hw
      show K _ w6
      refine hK.out _ _ (KEEP.out _ HG6.out) (fun hHeld => ?_)
      clear hK K
      try simp only [List.getElem_toArray, List.getElem_cons_succ, List.getElem_cons_zero, Act.put, List.setIfInBounds_toArray, List.set_cons_zero, List.set_cons_succ]
      refine wpAnyH_take (i := 7) (v := ?_) rfl (by kernel_rfl) (by kernel_rfl) (by kernel_rfl) (fun _ _ _ h => h) (Or.inl ⟨by rfl, ?_⟩) (by assumption) ?_
      rotate_left
      · (intro w hSw; (try (obtain ⟨q0, q1, q2⟩ := hSw)); go_simp; (try rw [if_neg (by omega)]); try with_reducible rfl)
      try simp only [List.getElem_toArray, List.getElem_cons_succ, List.getElem_cons_zero, Act.put, List.setIfInBounds_toArray, List.set_cons_zero, List.set_cons_succ]
      refine wpAnyH_take (i := 8) (v := ?_) rfl (by kernel_rfl) (by kernel_rfl) (by kernel_rfl) (fun _ _ _ h => h) (Or.inl ⟨by rfl, ?_⟩) (by assumption) ?_
      rotate_left
      · (intro w hSw; (try (obtain ⟨q0, q1, q2⟩ := hSw)); go_simp; (try rw [if_neg (by omega)]); try with_reducible rfl)
      try simp only [List.getElem_toArray, List.getElem_cons_succ, List.getElem_cons_zero, Act.put, List.setIfInBounds_toArray, List.set_cons_zero, List.set_cons_succ]
      refine wpAnyH_take (i := 11) (v := ?_) rfl (by kernel_rfl) (by kernel_rfl) (by kernel_rfl) (fun _ _ _ h => h) (Or.inl ⟨by rfl, ?_⟩) (by assumption) ?_
      rotate_left
      · (intro w hSw; (try (obtain ⟨q0, q1, q2⟩ := hSw)); go_simp; (try rw [if_neg (by omega)]); try with_reducible rfl)
      try simp only [List.getElem_toArray, List.getElem_cons_succ, List.getElem_cons_zero, Act.put, List.setIfInBounds_toArray, List.set_cons_zero, List.set_cons_succ]
      refine wpAnyH_take (i := 12) (v := ?_) rfl (by kernel_rfl) (by kernel_rfl) (by kernel_rfl) (fun _ _ _ h => h) (Or.inl ⟨by rfl, ?_⟩) (by assumption) ?_
      rotate_left
      · (intro w hSw; (try (obtain ⟨q0, q1, q2⟩ := hSw)); go_simp; (try rw [if_neg (by omega)]); try with_reducible rfl)
      try simp only [List.getElem_toArray, List.getElem_cons_succ, List.getElem_cons_zero, Act.put, List.setIfInBounds_toArray, List.set_cons_zero, List.set_cons_succ]
      refine wpAnyH_take (i := 13) (v := ?_) rfl (by kernel_rfl) (by kernel_rfl) (by kernel_rfl) (fun _ _ _ h => h) (Or.inl ⟨by rfl, ?_⟩) (by assumption) ?_
      rotate_left
      · (intro w hSw; (try (obtain ⟨q0, q1, q2⟩ := hSw)); go_simp; (try rw [if_neg (by omega)]); try with_reducible rfl)
      try simp only [List.getElem_toArray, List.getElem_cons_succ, List.getElem_cons_zero, Act.put, List.setIfInBounds_toArray, List.set_cons_zero, List.set_cons_succ]
      refine wpAnyH_take (i := 14) (v := ?_) rfl (by kernel_rfl) (by kernel_rfl) (by kernel_rfl) (fun _ _ _ h => h) (Or.inl ⟨by rfl, ?_⟩) (by assumption) ?_
      rotate_left
      · (intro w hSw; (try (obtain ⟨q0, q1, q2⟩ := hSw)); go_simp; (try rw [if_neg (by omega)]); try with_reducible rfl)
      try simp only [List.getElem_toArray, List.getElem_cons_succ, List.getElem_cons_zero, Act.put, List.setIfInBounds_toArray, List.set_cons_zero, List.set_cons_succ]
      refine wpAnyH_done (by kernel_rfl) ?_ _
      clear hHeld KEEP HGq
      have HB6 := Lib.hid (ext_trans HBB.out HG6.out)
      clear HG6 HBB HKB HA1 HA2 HA3 HA4 HA5 HA6 s0 s1 s2 s3 s4 s5 s6 s7 s8 hl1 hl2 hl3 hl4 hl6
      go_wp2_with fail
      go_roundw
      case rel => exact ⟨k + 1, by omega, by go_num, rfl, HB6.out⟩
      case measure => simp [intOf]; omega
    · obtain rfl : k = l.length := by omega
      rw [mbK_all]
      go_wp2_with fail
      go_ret
      exact ⟨rfl, ext_trans HB1.out HB.out⟩
set_option maxRecDepth 100000 in
set_option maxHeartbeats 4000000 in
theorem refManifest_any (n : List UInt8) (v : Value) (l : List Ent) (w : World) (h : (Rp.sl entRp).ok w (· < w.heap.size) [v] l) (hG : GInt w) (hT : TI w) (hpl : ∀ f ∈ l, f.path.length ≤ 10000000) (hn : n.length ≤ 9223372036854775807) :
    Calls Tryz.prog 6 #[.agg #[.string (bstr n), v]] w fun e w' => e = .returned (.tuple #[.string (bstr (mtOut n l).1), .int .i64 (mtOut n l).2]) ∧ Below w.heap.size w w' := by
  obtain ⟨A, c, rfl, hl, hc, _⟩ := Rp.sl_open h
  unfold maxLen at hc
  have hab := (Below.refl w.heap.size w).alloc (Nat.le_refl _) (.cells #[.string (bstr n), .slice A l.length c] 24)
  have hkb := Blk.new w 24 [.string (bstr n), .slice A l.length c]
  have H := Lib.hid (Rp.ext _ h hab)
  have HG := Lib.hid (hG.ext hab)
  have HT := Lib.hid (hT.ext hab)
  have HAB := Lib.hid hab
  have HKB := Lib.hid hkb
  have k0 : _ = some (Value.string (bstr n)) := hkb.cell 0
  have k1 : _ = some (Value.slice A l.length c) := hkb.cell 1
  have hlt0 : w.heap.size < (w.alloc (.cells #[.string (bstr n), .slice A l.length c] 24)).heap.size := by simp
  clear h hG hT hab hkb
  go_enter Tryz.func6, Tryz.ntmps6
  go_wp2_with fail
  refine (refCheckPackage_any n _ l _ H.out HG.out hpl hn).mono ?_
  rintro e w1 ⟨rfl, hb1⟩
  have HB1 := Lib.hid (ext_trans HAB.out hb1)
  have H1 := Lib.hid (Rp.ext _ H.out hb1)
  have HT1 := Lib.hid (HT.out.ext hb1)
  have HK1 := Lib.hid (HKB.out.same (same_below hb1) hlt0)
  have hlw1 : w.heap.size < w1.heap.size := by have := hb1.size; omega
  have j0 : _ = some (Value.string (bstr n)) := HK1.out.cell 0
  have j1 : _ = some (Value.slice A l.length c) := HK1.out.cell 1
  clear k0 k1 H HG HT HAB HKB hlt0 hb1
  by_cases hp : packFault n l = 0
  case neg =>
    have HM := Lib.hid (mt_bad hp)
    generalize packFault n l = pf at *
    go_wp2_with fail
    go_ret2
    exact ⟨by rw [HM.out]; rfl, HB1.out⟩
  have HML := Lib.hid (mbK_len hp)
  have hl5 := (pack_sizes hp).2.1
  have HP := Lib.hid hp
  rw [hp]
  have HRB := Lib.hid (refBody_any n (.slice A l.length c) l w1 H1.out HT1.out hp)
  clear hp
  go_wp2_with fail
  refine HRB.out.mono ?_
  rintro e wr ⟨rfl, hbr⟩
  have HB := Lib.hid hbr
  clear hbr HRB
  have hml := HML.out l.length (Nat.le_refl _)
  rw [mbK_all] at hml
  obtain ⟨dg, hdg⟩ : ∃ d, digL (manBody n l) = d := ⟨_, rfl⟩
  have hq := digL_len (manBody n l)
  have HM1 := Lib.hid (@mt_large n l HP.out)
  have HM2 := Lib.hid (@mt_ok n l HP.out)
  rw [hdg] at hq
  have HDC : Hid (∀ wq : World, Calls Tryz.prog 16 #[.string (bstr (manBody n l))] wq fun e w' => e = .returned (.string (bstr dg)) ∧ Below wq.heap.size wq w') := Lib.hid (fun wq => by rw [← hdg]; exact rdigest_any _ wq (by omega))
  obtain ⟨u1, hu1⟩ : ∃ t, kSeal ++ [32] ++ dg = t := ⟨_, rfl⟩
  obtain ⟨u2, hu2⟩ : ∃ t, u1 ++ [10] = t := ⟨_, rfl⟩
  have HMT : manBody n l ++ u2 = manText n l := by unfold manText; rw [hdg, ← hu2, ← hu1]; simp [List.append_assoc]
  have HD1 : (⟨#[115, 101, 97, 108, 32]⟩ : ByteArray) ++ bstr dg = bstr u1 := by
    have e : (⟨#[115, 101, 97, 108, 32]⟩ : ByteArray) = bstr (kSeal ++ [32]) := by rfl
    rw [e, ← hu1]; exact str_plus _ _
  have HD2 : bstr u1 ++ (⟨#[10]⟩ : ByteArray) = bstr u2 := by rw [← hu2]; exact str_plus _ [10]
  have HD3 : bstr (manBody n l) ++ bstr u2 = bstr (manText n l) := by rw [← HMT]; exact str_plus _ _
  have hg1 : u1.length ≤ 30 := by rw [← hu1]; simp [kSeal, hq]
  have hg2 : u2.length ≤ 31 := by rw [← hu2]; simp; omega
  have hgt : (manText n l).length ≤ 1200000 := by rw [← HMT, List.length_append]; omega
  have s1 : (bstr u1).size = u1.length := rfl
  have s2 : (bstr u2).size = u2.length := rfl
  have s3 : (bstr (manBody n l)).size = (manBody n l).length := rfl
  have s4 : (bstr dg).size = dg.length := rfl
  have s5 : (bstr (manText n l)).size = (manText n l).length := rfl
  clear hu1 hu2 HMT hdg HML j0
  have HBR := Lib.hid (ext_trans HB1.out HB.out)
  generalize manText n l = tx at *
  generalize manBody n l = body at *
  go_wp2_with fail
  refine (HDC.out _).mono ?_
  rintro e w5 ⟨rfl, hb5⟩
  have HB5 := Lib.hid (ext_trans HBR.out hb5)
  clear hb5 HDC
  by_cases hlg : 400000 < tx.length
  · have hlg' : (400000 : Int) < (tx.length : Int) := by omega
    have HR := Lib.hid (HM1.out hlg)
    go_wp2_with fail
    go_ret2
    exact ⟨by rw [HR.out]; rfl, HB5.out⟩
  · have hlg' : ¬ (400000 : Int) < (tx.length : Int) := by omega
    have HR := Lib.hid (HM2.out hlg)
    go_wp2_with fail
    go_ret2
    exact ⟨by rw [HR.out]; rfl, HB5.out⟩
end Go.Proofs.YtgfacedfndcgdaaGreatDoor
