/-
  Who may see: 'may' of package rights, 'maySee' of the reference of chapter 10.
-/
import Derived.Test.YtdljgjlkfihjdaaGreatDoorMay
namespace Go.Proofs.YtdljgjlkfihjdaaGreatDoor
open Go.RowKit
set_option linter.unusedVariables false
set_option linter.unusedSimpArgs false

def mayK (house tb : Bool) (kd : Int) : Bool := if kd = 1 then true else if kd = 2 then tb else if kd = 3 then house || tb else false
noncomputable def mayT (l : List Rgt) (ts : List (List UInt8)) (house : Bool) (c : Cap) (at_ : Int) : Bool :=
  if rightIx l c at_ < 0 then true else mayK house (decide ((l.getD (rightIx l c at_).toNat default).team ∈ ts)) (l.getD (rightIx l c at_).toNat default).kind
theorem mayB_eq (t : List Team) (l : List Rgt) (who : List UInt8) (house : Bool) (c : Cap) (at_ : Int) :
    mayB t l who house c at_ = if rightIx l c at_ < 0 then true else mayK house (inTeam t who (l.getD (rightIx l c at_).toNat default).team) (l.getD (rightIx l c at_).toNat default).kind := rfl
theorem mayT_eq {t : List Team} {l : List Rgt} {who : List UInt8} (h : teamsFault t = 0) (hr : RGood t l) (house : Bool) (c : Cap) (at_ : Int) :
    mayT l (eyeT t who t.length) house c at_ = mayB t l who house c at_ := by
  rw [mayB_eq, mayT]
  split
  · rfl
  · rename_i h0
    have hb := rightIx_range l c at_
    obtain ⟨b, hbe⟩ : ∃ b : Nat, rightIx l c at_ = (b : Int) := ⟨_, (Int.toNat_of_nonneg (by omega)).symm⟩
    have hbl : b < l.length := by omega
    rw [hbe, Int.toNat_natCast, getD_at _ _ hbl, eye_in h (hr.known b hbl)]
set_option maxRecDepth 100000 in
set_option maxHeartbeats 4000000 in
theorem may_any (vt : Value) (ts : List (List UInt8)) (house : Bool) (v : Value) (l : List Rgt) (c : Cap) (at_ : Int) (w : World) (hts : namesRp.ok w (· < w.heap.size) [vt] ts) (h0 : (Rp.sl rgtRp).ok w (· < w.heap.size) [v] l) (hm : l.length ≤ 1000) (hck : c.key.length ≤ 9223372036854775807) :
    Calls Tryz.prog 34 #[.agg #[.bool house, vt], v, .agg #[.string (bstr c.key), .int .i64 c.time], .int .i64 at_] w fun e w' => e = .returned (.bool (mayT l ts house c at_)) ∧ Below w.heap.size w w' := by
  obtain ⟨At, ct, rfl, _⟩ := names_open hts
  obtain ⟨A, cc, rfl, hl, hc, _⟩ := Rp.sl_open h0
  unfold maxLen at hc
  have HTS := Lib.hid hts
  have H0 := Lib.hid h0
  have HR : Hid (mayT l ts house c at_ = if rightIx l c at_ < 0 then true else mayK house (decide ((l.getD (rightIx l c at_).toNat default).team ∈ ts)) (l.getD (rightIx l c at_).toNat default).kind) := Lib.hid rfl
  have hrr := rightIx_range l c at_
  clear hts h0
  have hl0 := (Below.refl w.heap.size _).alloc (Nat.le_refl _) (.cells #[.bool house, .slice At ts.length ct] 63)
  have hl1 := (Below.refl (w.alloc (.cells #[.bool house, .slice At ts.length ct] 63)).heap.size _).alloc (Nat.le_refl _) (.cells #[.string (bstr c.key), .int .i64 c.time] 25)
  have HBA : Hid (Below w.heap.size w ((w.alloc (.cells #[.bool house, .slice At ts.length ct] 63)).alloc (.cells #[.string (bstr c.key), .int .i64 c.time] 25))) := Lib.hid ((hl0).trans (hl1.mono (by simp <;> omega)))
  have hk0 : Blk ((w.alloc (.cells #[.bool house, .slice At ts.length ct] 63)).alloc (.cells #[.string (bstr c.key), .int .i64 c.time] 25)) (w.heap.size) 63 [.bool house, .slice At ts.length ct] := by
    have h := (Blk.new w 63 [.bool house, .slice At ts.length ct]).same (same_below hl1) (by simp <;> omega)
    simpa only [World.size_alloc] using h
  have HKEA := Lib.hid hk0
  have hk1 : Blk ((w.alloc (.cells #[.bool house, .slice At ts.length ct] 63)).alloc (.cells #[.string (bstr c.key), .int .i64 c.time] 25)) (w.heap.size + 1) 25 [.string (bstr c.key), .int .i64 c.time] := by
    have h := Blk.new (w.alloc (.cells #[.bool house, .slice At ts.length ct] 63)) 25 [.string (bstr c.key), .int .i64 c.time]
    simpa only [World.size_alloc] using h
  have HKCA := Lib.hid hk1
  clear hl0 hk0 hl1 hk1
  go_enter Tryz.func34, Tryz.ntmps34
  have c0 : ((w.alloc (.cells #[.bool house, .slice At ts.length ct] 63)).alloc (.cells #[.string (bstr c.key), .int .i64 c.time] 25)).cell? ⟨w.heap.size + 1, 0, none⟩ = some (.string (bstr c.key)) := HKCA.out.cell 0
  have c1 : ((w.alloc (.cells #[.bool house, .slice At ts.length ct] 63)).alloc (.cells #[.string (bstr c.key), .int .i64 c.time] 25)).cell? ⟨w.heap.size + 1, 1, none⟩ = some (.int .i64 c.time) := HKCA.out.cell 1
  go_wp2_with fail
  clear c0 c1
  generalize ((w.alloc (.cells #[.bool house, .slice At ts.length ct] 63)).alloc (.cells #[.string (bstr c.key), .int .i64 c.time] 25)) = wA at *
  refine (rightOf_any _ l c at_ wA (Rp.ext _ H0.out HBA.out) hm hck).mono ?_
  rintro e w3 ⟨rfl, hb⟩
  have HB3 := Lib.hid (HBA.out.trans (hb.mono HBA.out.size))
  have HKE3 := Lib.hid (HKEA.out.same (same_below hb) HKEA.out.lt)
  have HKC3 := Lib.hid (HKCA.out.same (same_below hb) HKCA.out.lt)
  clear hb HBA HKEA HKCA
  generalize rightIx l c at_ = R at *
  by_cases hR : R < 0
  · have HF : Hid (mayT l ts house c at_ = true) := Lib.hid (HR.out.trans (if_pos hR))
    go_wp2_with fail
    go_ret
    exact ⟨by rw [HF.out]; rfl, HB3.out⟩
  obtain ⟨b, rfl⟩ : ∃ b : Nat, R = (b : Int) := ⟨R.toNat, (Int.toNat_of_nonneg (by omega)).symm⟩
  have hbl : b < l.length := by omega
  obtain ⟨ad, c', e1, hadb, y0, y1, y2, y3, y4, y5, y6, y7, y8, hy⟩ := rgt_at (Rp.below _ H0.out HB3.out) hbl
  injection e1 with e1 _ e2
  subst e1 e2
  have HYB : Hid ((ad.add (b * 9)).block < w3.heap.size) := Lib.hid (by rw [add_block]; exact Nat.lt_of_lt_of_le hadb HB3.out.size)
  rw [Int.toNat_natCast, getD_at _ _ hbl] at HR
  have HE := Lib.hid (HR.out.trans (if_neg hR))
  have HY7 := Lib.hid y7
  have HY8 := Lib.hid y8
  clear y0 y1 y2 y3 y4 y5 y6 y7 y8 hadb hy HR
  generalize l[b] = y at *
  have hb0 : (0 : Int) ≤ (b : Int) := by omega
  have hbI : (b : Int) < (l.length : Int) := by omega
  generalize hkd : y.kind = kd at *
  clear hkd
  have HCN : Hid (∀ W, Below w3.heap.size w3 W → Calls Tryz.prog 62 #[.slice At ts.length ct, .string (bstr y.team)] W fun e w' => e = .returned (.bool (decide (y.team ∈ ts))) ∧ Below W.heap.size W w') := Lib.hid (fun W hW => (containsN_any _ ts y.team W _ (Rp.ext _ (Rp.ext _ HTS.out HB3.out) hW)).mono fun e w' ⟨h1, h2⟩ => ⟨h1, by rw [h2]; exact Below.refl _ _⟩)
  generalize decide (y.team ∈ ts) = tb at *
  have KEEP : Hid (∀ w', Below w3.heap.size w3 w' → (w'.cell? ⟨w.heap.size, 1, none⟩ = some (.slice At ts.length ct) ∧ w'.cell? ⟨(ad.add (b * 9)).block, (ad.add (b * 9)).off + 8, none⟩ = some (.string (bstr y.team)))) := Lib.hid (fun w' hg => by
    have h1 := HKE3.out.same (same_below hg) HKE3.out.lt
    have hyb := HYB.out
    exact ⟨h1.cell 1, (hg.cell (p := ⟨(ad.add (b * 9)).block, (ad.add (b * 9)).off + 8, none⟩) hyb).trans HY8.out⟩)
  go_wp2_with fail
  refine wp_region_held_drew (S := fun w' => w'.cell? ⟨w.heap.size, 1, none⟩ = some (.slice At ts.length ct) ∧ w'.cell? ⟨(ad.add (b * 9)).block, (ad.add (b * 9)).off + 8, none⟩ = some (.string (bstr y.team))) (by kernel_rfl) (KEEP.out _ (Below.drew (Below.refl _ _))) (fun hHeld => ?_)
  obtain ⟨wq, hwq⟩ : ∃ wq, wq = World.drew w3 := ⟨_, rfl⟩
  have HG0 : Hid (Below w3.heap.size w3 wq) := Lib.hid (by rw [hwq]; exact Below.drew (Below.refl _ _))
  rw [← hwq] at hHeld ⊢
  clear hwq
  refine wpAnyH_take (i := 0) (v := ?_) rfl (by kernel_rfl) (by kernel_rfl) (by kernel_rfl) (fun _ _ _ h => h) (Or.inl ⟨by rfl, ?_⟩) (by assumption) ?_
  rotate_left
  · (intro w hSw; (try dsimp only at hSw); go_simp; try with_reducible rfl)
  try simp only [List.getElem_toArray, List.getElem_cons_succ, List.getElem_cons_zero, Act.put, List.setIfInBounds_toArray, List.set_cons_zero, List.set_cons_succ]
  refine wpAnyH_take (i := 1) (v := ?_) rfl (by kernel_rfl) (by kernel_rfl) (by kernel_rfl) (fun _ _ _ h => h) (Or.inl ⟨by rfl, ?_⟩) (by assumption) ?_
  rotate_left
  · (intro w hSw; (try dsimp only at hSw); go_simp; try with_reducible rfl)
  try simp only [List.getElem_toArray, List.getElem_cons_succ, List.getElem_cons_zero, Act.put, List.setIfInBounds_toArray, List.set_cons_zero, List.set_cons_succ]
  refine wpAnyH_take (i := 2) (v := ?_) rfl (by kernel_rfl) (by kernel_rfl) (by kernel_rfl) (fun _ _ _ h => h) (Or.inl ⟨by rfl, ?_⟩) (by assumption) ?_
  rotate_left
  · (intro w hSw; (try dsimp only at hSw); go_simp; try with_reducible rfl)
  try simp only [List.getElem_toArray, List.getElem_cons_succ, List.getElem_cons_zero, Act.put, List.setIfInBounds_toArray, List.set_cons_zero, List.set_cons_succ]
  refine wpAnyH_take (i := 3) (v := ?_) rfl (by kernel_rfl) (by kernel_rfl) (by kernel_rfl) (fun _ _ _ h => h) (Or.inl ⟨by rfl, ?_⟩) (by assumption) ?_
  rotate_left
  · (intro w hSw; (try dsimp only at hSw); go_simp; try with_reducible rfl)
  try simp only [List.getElem_toArray, List.getElem_cons_succ, List.getElem_cons_zero, Act.put, List.setIfInBounds_toArray, List.set_cons_zero, List.set_cons_succ]
  refine wpAnyH_take (i := 4) (v := ?_) rfl (by kernel_rfl) (by kernel_rfl) (by kernel_rfl) (fun _ _ _ h => h) (Or.inl ⟨by rfl, ?_⟩) (by assumption) ?_
  rotate_left
  · (intro w hSw; (try dsimp only at hSw); go_simp; try with_reducible rfl)
  try simp only [List.getElem_toArray, List.getElem_cons_succ, List.getElem_cons_zero, Act.put, List.setIfInBounds_toArray, List.set_cons_zero, List.set_cons_succ]
  refine wpAnyH_take (i := 5) (v := ?_) rfl (by kernel_rfl) (by kernel_rfl) (by kernel_rfl) (fun _ _ _ h => h) (Or.inl ⟨by rfl, ?_⟩) (by assumption) ?_
  rotate_left
  · (intro w hSw; (try dsimp only at hSw); go_simp; try with_reducible rfl)
  try simp only [List.getElem_toArray, List.getElem_cons_succ, List.getElem_cons_zero, Act.put, List.setIfInBounds_toArray, List.set_cons_zero, List.set_cons_succ]
  refine wpAnyH_take (i := 6) (v := ?_) rfl (by kernel_rfl) (by kernel_rfl) (by kernel_rfl) (fun _ _ _ h => h) (Or.inl ⟨by rfl, ?_⟩) (by assumption) ?_
  rotate_left
  · (intro w hSw; (try dsimp only at hSw); go_simp; try with_reducible rfl)
  try simp only [List.getElem_toArray, List.getElem_cons_succ, List.getElem_cons_zero, Act.put, List.setIfInBounds_toArray, List.set_cons_zero, List.set_cons_succ]
  refine wpAnyH_ready (rs := [7]) (by kernel_rfl) (by simp) ?_
  refine AllReadyH.cons rfl (fun K hK => ?_) AllReadyH.nil
  rw [if_pos (by rfl)]
  simp only [List.getElem_toArray, List.getElem_cons_succ, List.getElem_cons_zero]
  go_simp
  go_at_call 62
  refine (HCN.out _ HG0.out).mono ?_
  rintro e w5 ⟨rfl, hw⟩
  have HG5 : Hid (Below w3.heap.size w3 w5) := Lib.hid (HG0.out.trans (hw.mono HG0.out.size))
  clear hw
  show K _ w5
  refine hK.out _ _ (KEEP.out _ HG5.out) (fun hHeld => ?_)
  clear hK K
  try simp only [List.getElem_toArray, List.getElem_cons_succ, List.getElem_cons_zero, Act.put, List.setIfInBounds_toArray, List.set_cons_zero, List.set_cons_succ]
  refine wpAnyH_take (i := 8) (v := ?_) rfl (by kernel_rfl) (by kernel_rfl) (by kernel_rfl) (fun _ _ _ h => h) (Or.inl ⟨by rfl, ?_⟩) (by assumption) ?_
  rotate_left
  · (intro w hSw; (try dsimp only at hSw); go_simp; try with_reducible rfl)
  try simp only [List.getElem_toArray, List.getElem_cons_succ, List.getElem_cons_zero, Act.put, List.setIfInBounds_toArray, List.set_cons_zero, List.set_cons_succ]
  refine wpAnyH_done (by kernel_rfl) ?_ _
  clear hHeld KEEP
  have HBZ := Lib.hid (HB3.out.trans (HG5.out.mono HB3.out.size))
  have q7 : w5.cell? ⟨(ad.add (b * 9)).block, (ad.add (b * 9)).off + 7, none⟩ = some (.int .i64 kd) := (HG5.out.cell (p := ⟨(ad.add (b * 9)).block, (ad.add (b * 9)).off + 7, none⟩) HYB.out).trans HY7.out
  have e0 : w5.cell? ⟨w.heap.size, 0, none⟩ = some (.bool house) := (HKE3.out.same (same_below HG5.out) HKE3.out.lt).cell 0
  by_cases h1 : kd = 1
  · have HF : Hid (mayT l ts house c at_ = true) := Lib.hid (HE.out.trans (by subst h1; rfl))
    subst h1
    go_wp2_with fail
    go_ret
    exact ⟨by rw [HF.out]; rfl, HBZ.out⟩
  by_cases h2 : kd = 2
  · have HF : Hid (mayT l ts house c at_ = tb) := Lib.hid (HE.out.trans (by subst h2; rfl))
    subst h2
    go_wp2_with fail
    go_ret
    exact ⟨by rw [HF.out]; rfl, HBZ.out⟩
  by_cases h3 : kd = 3
  · have HF : Hid (mayT l ts house c at_ = (house || tb)) := Lib.hid (HE.out.trans (by subst h3; rfl))
    subst h3
    cases house with
    | true =>
      go_wp2_with fail
      go_ret
      exact ⟨by rw [HF.out]; rfl, HBZ.out⟩
    | false =>
      go_wp2_with fail
      go_ret
      exact ⟨by rw [HF.out]; rfl, HBZ.out⟩
  have HF : Hid (mayT l ts house c at_ = false) := Lib.hid (HE.out.trans (by unfold mayK; rw [if_neg h1, if_neg h2, if_neg h3]))
  go_wp2_with fail
  go_ret
  exact ⟨by rw [HF.out]; rfl, HBZ.out⟩
end Go.Proofs.YtdljgjlkfihjdaaGreatDoor
