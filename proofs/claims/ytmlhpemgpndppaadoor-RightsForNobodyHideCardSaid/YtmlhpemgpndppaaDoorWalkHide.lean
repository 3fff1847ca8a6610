/-
  The law 'RightsForNobodyHide' walked: it returns true.
-/
import Derived.Test.YtmlhpemgpndppaaDoorAsk
import Derived.Test.YtmlhpemgpndppaaDoorVwr
import Derived.Test.YtmlhpemgpndppaaDoorAwake10
import Derived.Test.YtmlhpemgpndppaaDoorCloneR
import Derived.Test.YtmlhpemgpndppaaDoorHideP
namespace Go.Proofs.YtmlhpemgpndppaaDoor
open Go.RowKit
set_option linter.unusedVariables false
set_option linter.unusedSimpArgs false

set_option maxRecDepth 100000 in
set_option maxHeartbeats 4000000 in
theorem hideLaw_any (v0 : Value) (t : List Team) (v1 : Value) (l : List Rgt) (cs2 : Array Value) (vw2 : Vwr) (cs3 : Array Value) (c : Cap) (v4 : Value) (at_ : Int) (w : World) (h0 : (Rp.sl teamRp).ok w (· < w.heap.size) [v0] t) (f0 : (Rp.sl teamRp).fits t) (h1 : (Rp.sl rgtRp).ok w (· < w.heap.size) [v1] l) (f1 : (Rp.sl rgtRp).fits l) (h2 : vwrRp.ok w (· < w.heap.size) cs2.toList vw2) (f2 : vwrRp.fits vw2) (h3 : capRp.ok w (· < w.heap.size) cs3.toList c) (f3 : capRp.fits c) (h4 : (Rp.int .i64).ok w (· < w.heap.size) [v4] at_) (f4 : (Rp.int .i64).fits at_) :
    Calls Tryd.prog 4 #[v0, v1, .agg cs2, .agg cs3, v4] w fun e w' => e = .returned (.bool true) ∧ Below w.heap.size w w' := by
  obtain ⟨who, house⟩ := vw2
  obtain ⟨e2, hwl0⟩ := vwr_open h2
  obtain rfl : cs2 = #[.string (bstr who), .bool house] := by apply Array.toList_inj.1; rw [e2]; rfl
  have hwl : who.length ≤ 9223372036854775807 := hwl0
  clear h2 f2 e2 hwl0
  obtain ⟨e3, hck0, _⟩ := cap_open h3
  obtain rfl : cs3 = #[.string (bstr c.key), .int .i64 c.time] := by apply Array.toList_inj.1; rw [e3]; rfl
  have hck : c.key.length ≤ 9223372036854775807 := hck0
  clear h3 f3 e3 hck0
  obtain ⟨e4, hw_at_⟩ := h4
  injection e4 with e4
  subst e4
  clear f4
  have H0 := Lib.hid h0
  clear h0 f0
  have H1 := Lib.hid h1
  clear h1 f1
  have hl0 := (Below.refl w.heap.size _).alloc (Nat.le_refl _) (.cells #[.string (bstr who), .bool house] 25)
  have hl1 := (Below.refl (w.alloc (.cells #[.string (bstr who), .bool house] 25)).heap.size _).alloc (Nat.le_refl _) (.cells #[.string (bstr c.key), .int .i64 c.time] 27)
  have HBA : Hid (Below w.heap.size w ((w.alloc (.cells #[.string (bstr who), .bool house] 25)).alloc (.cells #[.string (bstr c.key), .int .i64 c.time] 27))) := Lib.hid ((hl0).trans (hl1.mono (by simp <;> omega)))
  have hk0 : Blk ((w.alloc (.cells #[.string (bstr who), .bool house] 25)).alloc (.cells #[.string (bstr c.key), .int .i64 c.time] 27)) (w.heap.size) 25 [.string (bstr who), .bool house] := by
    have h := (Blk.new w 25 [.string (bstr who), .bool house]).same (same_below hl1) (by simp <;> omega)
    simpa only [World.size_alloc] using h
  have HKVA := Lib.hid hk0
  have hk1 : Blk ((w.alloc (.cells #[.string (bstr who), .bool house] 25)).alloc (.cells #[.string (bstr c.key), .int .i64 c.time] 27)) (w.heap.size + 1) 27 [.string (bstr c.key), .int .i64 c.time] := by
    have h := Blk.new (w.alloc (.cells #[.string (bstr who), .bool house] 25)) 27 [.string (bstr c.key), .int .i64 c.time]
    simpa only [World.size_alloc] using h
  have HKCA := Lib.hid hk1
  clear hl0 hk0 hl1 hk1
  have HOK : Hid (∀ x ∈ l, RgtOk x) := Lib.hid (fun x hx => by
    obtain ⟨k, hk, rfl⟩ := List.mem_iff_getElem.1 hx
    obtain ⟨_, _, _, _, _, _, _, _, _, _, _, _, _, hz⟩ := rgt_at H1.out hk
    exact hz)
  have HIO : Hid (∀ k, k < l.length → True) := Lib.hid (fun _ _ => trivial)
  clear HIO
  go_enter Tryd.func4, Tryd.ntmps4
  have m0 : ((w.alloc (.cells #[.string (bstr who), .bool house] 25)).alloc (.cells #[.string (bstr c.key), .int .i64 c.time] 27)).cell? ⟨w.heap.size, 0, none⟩ = some (.string (bstr who)) := HKVA.out.cell 0
  have m1 : ((w.alloc (.cells #[.string (bstr who), .bool house] 25)).alloc (.cells #[.string (bstr c.key), .int .i64 c.time] 27)).cell? ⟨w.heap.size, 1, none⟩ = some (.bool house) := HKVA.out.cell 1
  have c0 : ((w.alloc (.cells #[.string (bstr who), .bool house] 25)).alloc (.cells #[.string (bstr c.key), .int .i64 c.time] 27)).cell? ⟨w.heap.size + 1, 0, none⟩ = some (.string (bstr c.key)) := HKCA.out.cell 0
  have c1 : ((w.alloc (.cells #[.string (bstr who), .bool house] 25)).alloc (.cells #[.string (bstr c.key), .int .i64 c.time] 27)).cell? ⟨w.heap.size + 1, 1, none⟩ = some (.int .i64 c.time) := HKCA.out.cell 1
  go_wp2_with fail
  clear m0 m1 c0 c1
  generalize ((w.alloc (.cells #[.string (bstr who), .bool house] 25)).alloc (.cells #[.string (bstr c.key), .int .i64 c.time] 27)) = wA at *
  refine (mayTop_any v0 t v1 l who house c at_ wA (Rp.ext _ H0.out HBA.out) (Rp.ext _ H1.out HBA.out) hck hwl).mono ?_
  rintro e w3 ⟨rfl, hb⟩
  have HB3 := Lib.hid (HBA.out.trans (hb.mono HBA.out.size))
  have HKV3 := Lib.hid (HKVA.out.same (same_below hb) HKVA.out.lt)
  have HKC3 := Lib.hid (HKCA.out.same (same_below hb) HKCA.out.lt)
  clear hb HBA HKVA HKCA
  by_cases hf : (mayTop t l who house c at_).2 = 0
  case neg =>
    have hz := may_no hf
    have hn : ((mayTop t l who house c at_).2 != 0) = true := by simpa using hf
    have hn2 : ((mayTop t l who house c at_).2 == 0) = false := by simpa using hf
    rw [hz]
    clear hf hz
    generalize (mayTop t l who house c at_).2 = f at *
    go_wp2_with fail
    refine (awake_any _).mono ?_
    rintro e wz ⟨rfl, hb⟩
    have HBZ := Lib.hid (HB3.out.trans (hb.mono HB3.out.size))
    clear hb
    go_wp2_with fail
    go_ret
    exact ⟨rfl, HBZ.out⟩
  obtain ⟨hlen, hrat⟩ := may_len hf
  have hra : 0 ≤ at_ ∧ at_ ≤ 253402300799 := of_decide_eq_true hrat
  have HLAW : Hid (rightsFault t (l ++ [hideR c at_]) = 0 → _) := Lib.hid (hide_law hf)
  clear hrat
  rw [hf]
  clear hf
  obtain ⟨Al, cl, hv1, hlc, hlm, _⟩ := Rp.sl_open (Rp.ext _ H1.out HB3.out)
  subst hv1
  unfold maxLen at hlm
  generalize (mayTop t l who house c at_).1 = may at *
  by_cases hl3 : 300 ≤ l.length
  · have hl3I : (300 : Int) ≤ (l.length : Int) := by omega
    go_wp2_with fail
    refine (awake_any _).mono ?_
    rintro e wz ⟨rfl, hb⟩
    have HBZ := Lib.hid (HB3.out.trans (hb.mono HB3.out.size))
    clear hb
    go_wp2_with fail
    go_ret
    exact ⟨rfl, HBZ.out⟩
  have hl3I : ¬ (300 : Int) ≤ (l.length : Int) := by omega
  have hwr : IntKind.i64.wrap (at_ + 1) = at_ + 1 := by rw [IntKind.wrap_i64]; omega
  have c0 : w3.cell? ⟨w.heap.size + 1, 0, none⟩ = some (.string (bstr c.key)) := HKC3.out.cell 0
  have HAL := (Below.refl w3.heap.size w3).alloc (Nat.le_refl _) (.cells #[.string ⟨#[122, 122, 45, 104, 105, 100, 101]⟩, .string (bstr c.key), .int .i64 0, .int .i64 253402300800, .int .i64 at_, .int .i64 (at_ + 1), .int .i64 at_, .int .i64 4, .string ⟨#[]⟩] 37)
  have HB4 := Lib.hid (HB3.out.trans (HAL.mono HB3.out.size))
  have HKV4 := Lib.hid (HKV3.out.same (same_below HAL) HKV3.out.lt)
  have HKC4 := Lib.hid (HKC3.out.same (same_below HAL) HKC3.out.lt)
  have HKH4 := Lib.hid (Blk.new w3 37 [.string ⟨#[122, 122, 45, 104, 105, 100, 101]⟩, .string (bstr c.key), .int .i64 0, .int .i64 253402300800, .int .i64 at_, .int .i64 (at_ + 1), .int .i64 at_, .int .i64 4, .string ⟨#[]⟩])
  clear HAL HKV3 HKC3
  go_wp2_with fail
  clear c0
  obtain ⟨all, hall⟩ : ∃ all, all = l ++ [hideR c at_] := ⟨_, rfl⟩
  rw [← hall] at HLAW
  have HALN : Hid (all.length = l.length + 1) := Lib.hid (by rw [hall]; simp)
  have HALE := Lib.hid hall
  clear hall
  obtain ⟨g1, hg1⟩ : ∃ g1, g1 = w3.heap.size := ⟨_, rfl⟩
  rw [← hg1] at HKH4 ⊢
  clear hg1
  generalize w3.alloc (.cells #[.string ⟨#[122, 122, 45, 104, 105, 100, 101]⟩, .string (bstr c.key), .int .i64 0, .int .i64 253402300800, .int .i64 at_, .int .i64 (at_ + 1), .int .i64 at_, .int .i64 4, .string ⟨#[]⟩] 37) = w4 at *
  have KEEP : Hid (∀ w', Below w4.heap.size w4 w' → (w'.cell? ⟨g1, 0, none⟩ = some (.string ⟨#[122, 122, 45, 104, 105, 100, 101]⟩) ∧ w'.cell? ⟨g1, 1, none⟩ = some (.string (bstr c.key)) ∧ w'.cell? ⟨g1, 2, none⟩ = some (.int .i64 0) ∧ w'.cell? ⟨g1, 3, none⟩ = some (.int .i64 253402300800) ∧ w'.cell? ⟨g1, 4, none⟩ = some (.int .i64 at_) ∧ w'.cell? ⟨g1, 5, none⟩ = some (.int .i64 (at_ + 1)) ∧ w'.cell? ⟨g1, 6, none⟩ = some (.int .i64 at_) ∧ w'.cell? ⟨g1, 7, none⟩ = some (.int .i64 4) ∧ w'.cell? ⟨g1, 8, none⟩ = some (.string ⟨#[]⟩))) := Lib.hid (fun w' hg => by
    have h1 := HKH4.out.same (same_below hg) HKH4.out.lt
    exact ⟨h1.cell 0, h1.cell 1, h1.cell 2, h1.cell 3, h1.cell 4, h1.cell 5, h1.cell 6, h1.cell 7, h1.cell 8⟩)
  have HRX : Hid (RgtOk (hideR c at_)) := Lib.hid (by
    have h5 : (Lit.int .i64 at_).wf = true := WalkArith.wf_i64 (by omega)
    have h6 : (Lit.int .i64 (at_ + 1)).wf = true := WalkArith.wf_i64 (by omega)
    have h1 : (7 : Nat) ≤ maxLen := by unfold maxLen; omega
    have h2 : (0 : Nat) ≤ maxLen := Nat.zero_le _
    have h3 : (Lit.int .i64 0).wf = true := by decide
    have h4 : (Lit.int .i64 253402300800).wf = true := by decide
    have h7 : (Lit.int .i64 4).wf = true := by decide
    exact ⟨h1, hck, h3, h4, h5, h6, h5, h7, h2⟩)
  refine wp_region_held_drew (S := fun w' => w'.cell? ⟨g1, 0, none⟩ = some (.string ⟨#[122, 122, 45, 104, 105, 100, 101]⟩) ∧ w'.cell? ⟨g1, 1, none⟩ = some (.string (bstr c.key)) ∧ w'.cell? ⟨g1, 2, none⟩ = some (.int .i64 0) ∧ w'.cell? ⟨g1, 3, none⟩ = some (.int .i64 253402300800) ∧ w'.cell? ⟨g1, 4, none⟩ = some (.int .i64 at_) ∧ w'.cell? ⟨g1, 5, none⟩ = some (.int .i64 (at_ + 1)) ∧ w'.cell? ⟨g1, 6, none⟩ = some (.int .i64 at_) ∧ w'.cell? ⟨g1, 7, none⟩ = some (.int .i64 4) ∧ w'.cell? ⟨g1, 8, none⟩ = some (.string ⟨#[]⟩)) (by kernel_rfl) (KEEP.out _ (Below.drew (Below.refl _ _))) (fun hHeld => ?_)
  obtain ⟨wq, hwq⟩ : ∃ wq, wq = World.drew w4 := ⟨_, rfl⟩
  have HG0 : Hid (Below w4.heap.size w4 wq) := Lib.hid (by rw [hwq]; exact Below.drew (Below.refl _ _))
  rw [← hwq] at hHeld ⊢
  clear hwq
  refine wpAnyH_take (i := 0) (v := ?_) rfl (by kernel_rfl) (by kernel_rfl) (by kernel_rfl) (fun _ _ _ h => h) (Or.inl ⟨by rfl, ?_⟩) (by assumption) ?_
  rotate_left
  · (intro w hSw; (try dsimp only at hSw); go_simp; try with_reducible rfl)
  try simp only [List.getElem_toArray, List.getElem_cons_succ, List.getElem_cons_zero, Act.put, List.setIfInBounds_toArray, List.set_cons_zero, List.set_cons_succ]
  refine wpAnyH_take (i := 2) (v := ?_) rfl (by kernel_rfl) (by kernel_rfl) (by kernel_rfl) (fun _ _ _ h => h) (Or.inl ⟨by rfl, ?_⟩) (by assumption) ?_
  rotate_left
  · (intro w hSw; (try dsimp only at hSw); go_simp; try with_reducible rfl)
  try simp only [List.getElem_toArray, List.getElem_cons_succ, List.getElem_cons_zero, Act.put, List.setIfInBounds_toArray, List.set_cons_zero, List.set_cons_succ]
  refine wpAnyH_ready (rs := [1, 3]) (by kernel_rfl) (by simp) ?_
  refine AllReadyH.cons rfl (fun K hK => ?_) (AllReadyH.cons rfl (fun K hK => ?_) AllReadyH.nil)
  · rw [if_pos (by rfl)]
    simp only [List.getElem_toArray, List.getElem_cons_succ, List.getElem_cons_zero]
    go_simp
    go_at_call 15
    refine (clone_rgt_any _ l _ (Rp.ext _ (Rp.ext _ H1.out HB4.out) HG0.out) (by omega)).mono ?_
    rintro e w5 ⟨vq, rfl, ho, hw⟩
    have HO5 := Lib.hid ho
    have HKW := Lib.hid hw
    have HG5 : Hid (Below w4.heap.size w4 w5) := Lib.hid (HG0.out.trans (hw.mono HG0.out.size))
    clear ho hw
    show K _ w5
    refine hK.out _ _ (KEEP.out _ HG5.out) (fun hHeld => ?_)
    clear hK K
    try simp only [List.getElem_toArray, List.getElem_cons_succ, List.getElem_cons_zero, Act.put, List.setIfInBounds_toArray, List.set_cons_zero, List.set_cons_succ]
    refine wpAnyH_ready (rs := [3]) (by kernel_rfl) (by simp) ?_
    refine AllReadyH.cons rfl (fun K hK => ?_) AllReadyH.nil
    have HROW := Lib.hid (Blk.new w5 37 [.string ⟨#[122, 122, 45, 104, 105, 100, 101]⟩, .string (bstr c.key), .int .i64 0, .int .i64 253402300800, .int .i64 at_, .int .i64 (at_ + 1), .int .i64 at_, .int .i64 4, .string ⟨#[]⟩])
    have HAL := Lib.hid ((Below.refl w5.heap.size w5).alloc (Nat.le_refl _) (.cells #[.string ⟨#[122, 122, 45, 104, 105, 100, 101]⟩, .string (bstr c.key), .int .i64 0, .int .i64 253402300800, .int .i64 at_, .int .i64 (at_ + 1), .int .i64 at_, .int .i64 4, .string ⟨#[]⟩] 37))
    have HG6 : Hid (Below w4.heap.size w4 (w5.alloc (.cells #[.string ⟨#[122, 122, 45, 104, 105, 100, 101]⟩, .string (bstr c.key), .int .i64 0, .int .i64 253402300800, .int .i64 at_, .int .i64 (at_ + 1), .int .i64 at_, .int .i64 4, .string ⟨#[]⟩] 37))) := Lib.hid (HG5.out.trans (HAL.out.mono HG5.out.size))
    rw [if_pos (by rfl)]
    simp only [List.getElem_toArray, List.getElem_cons_succ, List.getElem_cons_zero]
    go_simp
    refine hK.out _ _ (KEEP.out _ HG6.out) (fun hHeld => ?_)
    clear hK K
    try simp only [List.getElem_toArray, List.getElem_cons_succ, List.getElem_cons_zero, Act.put, List.setIfInBounds_toArray, List.set_cons_zero, List.set_cons_succ]
    clear HAL
    have HOX := HO5.out
    have HAL := Lib.hid ((Below.refl w5.heap.size w5).alloc (Nat.le_refl _) (.cells #[.string ⟨#[122, 122, 45, 104, 105, 100, 101]⟩, .string (bstr c.key), .int .i64 0, .int .i64 253402300800, .int .i64 at_, .int .i64 (at_ + 1), .int .i64 at_, .int .i64 4, .string ⟨#[]⟩] 37))
    have HO5 := Lib.hid (own_below HOX HAL.out)
    clear HOX
    refine wpAnyH_ready (rs := [4]) (by kernel_rfl) (by simp) ?_
    refine AllReadyH.cons rfl (fun K hK => ?_) AllReadyH.nil
    refine step_app_blk (by rfl) (.tmp 51) (.tmp 53) 23 (by rfl) 37 (.agg #[.string ⟨#[]⟩, .string ⟨#[]⟩, .int .i64 0, .int .i64 0, .int .i64 0, .int .i64 0, .int .i64 0, .int .i64 0, .string ⟨#[]⟩]) 9 96 Tryd.underlying23 rgt_info rfl (by decide) (m := 1) [.string ⟨#[122, 122, 45, 104, 105, 100, 101]⟩, .string (bstr c.key), .int .i64 0, .int .i64 253402300800, .int .i64 at_, .int .i64 (at_ + 1), .int .i64 at_, .int .i64 4, .string ⟨#[]⟩] HROW.out HO5.out (by have h1 := HKW.out.size; (try simp only [World.size_alloc] at h1); (try simp only [World.size_alloc]); omega) rfl rfl rfl (by simp [Value.oneCell']) (by unfold maxLen; omega) (by omega) ?_
    intro v8 w8 HO8 HG8
    have HB8 : Hid (Below w4.heap.size w4 w8) := Lib.hid (HG6.out.grown HG8.out HG6.out.size (fun g hg => by have h1 := (HO5.out.lt g hg).1; have h2 := HG0.out.size; omega))
    refine hK.out _ _ (KEEP.out _ HB8.out) (fun hHeld => ?_)
    clear hK K
    try simp only [List.getElem_toArray, List.getElem_cons_succ, List.getElem_cons_zero, Act.put, List.setIfInBounds_toArray, List.set_cons_zero, List.set_cons_succ]
    refine wpAnyH_take (i := 5) (v := ?_) rfl (by kernel_rfl) (by kernel_rfl) (by kernel_rfl) (fun _ _ _ h => h) (Or.inl ⟨by rfl, ?_⟩) (by assumption) ?_
    rotate_left
    · (intro w hSw; (try dsimp only at hSw); go_simp; try with_reducible rfl)
    try simp only [List.getElem_toArray, List.getElem_cons_succ, List.getElem_cons_zero, Act.put, List.setIfInBounds_toArray, List.set_cons_zero, List.set_cons_succ]
    refine wpAnyH_done (by kernel_rfl) ?_ _
    have HALL : Hid ((Rp.sl rgtRp).ok w8 (· < w8.heap.size) [v8] all) := Lib.hid (by
      rw [HALE.out]
      have h8 := HO8.out
      rw [show l.flatMap rgtCells ++ [.string ⟨#[122, 122, 45, 104, 105, 100, 101]⟩, .string (bstr c.key), .int .i64 0, .int .i64 253402300800, .int .i64 at_, .int .i64 (at_ + 1), .int .i64 at_, .int .i64 4, .string ⟨#[]⟩] = (l ++ [hideR c at_]).flatMap rgtCells by rw [List.flatMap_append]; rfl] at h8
      exact rgts_read h8 (fun x hx => by
        rcases List.mem_append.1 hx with hx | hx
        · exact HOK.out x hx
        · rw [List.mem_singleton.1 hx]; exact HRX.out))
    clear hHeld KEEP HO8 HG8 HO5 HROW HKW HAL
    have HB9 := Lib.hid (HB4.out.trans (HB8.out.mono HB4.out.size))
    have HKV9 := Lib.hid (HKV4.out.same (same_below HB8.out) HKV4.out.lt)
    have HKC9 := Lib.hid (HKC4.out.same (same_below HB8.out) HKC4.out.lt)
    clear HB8
    obtain ⟨A8, c8, hv8, hlc8, hlm8, _⟩ := Rp.sl_open HALL.out
    subst hv8
    unfold maxLen at hlm8
    go_wp2_with fail
    refine (checkRights_any v0 t _ all w8 (Rp.ext _ H0.out HB9.out) HALL.out).mono ?_
    rintro e w10 ⟨rfl, hb⟩
    have HB10 := Lib.hid (HB9.out.trans (hb.mono HB9.out.size))
    have HKV10 := Lib.hid (HKV9.out.same (same_below hb) HKV9.out.lt)
    have HKC10 := Lib.hid (HKC9.out.same (same_below hb) HKC9.out.lt)
    have HALL10 := Lib.hid (Rp.ext _ HALL.out hb)
    clear hb HB9 HKV9 HKC9
    by_cases hf : rightsFault t all = 0
    case neg =>
      have hn : (rightsFault t all != 0) = true := by simpa using hf
      clear hf HLAW
      generalize rightsFault t all = f at *
      go_wp2_with fail
      refine (awake_any _).mono ?_
      rintro e wz ⟨rfl, hb⟩
      have HBZ := Lib.hid (HB10.out.trans (hb.mono HB10.out.size))
      clear hb
      go_wp2_with fail
      go_ret
      exact ⟨rfl, HBZ.out⟩
    obtain ⟨hm2, b, hb8, hrt, hpre, hmade, hlast⟩ := HLAW.out hf
    rw [hf]
    clear hf HLAW
    have m0 : w10.cell? ⟨w.heap.size, 0, none⟩ = some (.string (bstr who)) := HKV10.out.cell 0
    have m1 : w10.cell? ⟨w.heap.size, 1, none⟩ = some (.bool house) := HKV10.out.cell 1
    have c0 : w10.cell? ⟨w.heap.size + 1, 0, none⟩ = some (.string (bstr c.key)) := HKC10.out.cell 0
    have c1 : w10.cell? ⟨w.heap.size + 1, 1, none⟩ = some (.int .i64 c.time) := HKC10.out.cell 1
    go_wp2_with fail
    clear m0 m1 c0 c1
    refine (mayTop_any v0 t _ all who house c at_ w10 (Rp.ext _ H0.out HB10.out) HALL10.out hck hwl).mono ?_
    rintro e w11 ⟨rfl, hb⟩
    have HB11 := Lib.hid (HB10.out.trans (hb.mono HB10.out.size))
    have HKV11 := Lib.hid (HKV10.out.same (same_below hb) HKV10.out.lt)
    have HKC11 := Lib.hid (HKC10.out.same (same_below hb) HKC10.out.lt)
    have HALL11 := Lib.hid (Rp.ext _ HALL10.out hb)
    clear HALL10
    clear hb HB10 HKV10 HKC10
    rw [hm2]
    clear hm2
    generalize (mayTop t all who house c at_).1 = m2 at *
    have c0 : w11.cell? ⟨w.heap.size + 1, 0, none⟩ = some (.string (bstr c.key)) := HKC11.out.cell 0
    have c1 : w11.cell? ⟨w.heap.size + 1, 1, none⟩ = some (.int .i64 c.time) := HKC11.out.cell 1
    go_wp2_with fail
    clear c0 c1
    refine (rightTop_any v0 t _ all c at_ w11 (Rp.ext _ H0.out HB11.out) HALL11.out hck).mono ?_
    rintro e w12 ⟨rfl, hb⟩
    have HB12 := Lib.hid (HB11.out.trans (hb.mono HB11.out.size))
    have HKV12 := Lib.hid (HKV11.out.same (same_below hb) HKV11.out.lt)
    have HKC12 := Lib.hid (HKC11.out.same (same_below hb) HKC11.out.lt)
    have HALL12 := Lib.hid (Rp.ext _ HALL11.out hb)
    clear HALL11
    clear hb HB11 HKV11 HKC11
    rw [hrt]
    clear hrt
    dsimp only
    obtain ⟨ad8, c8', e8, hadb, y0, y1, y2, y3, y4, y5, y6, y7, y8, hy⟩ := rgt_at HALL12.out hb8
    injection e8 with e8 e8l e8c
    subst e8 e8c
    rw [hpre] at y1
    rw [hmade] at y6
    clear y0 y2 y3 y4 y5 y7 y8 hy hpre hmade e8l
    have HYB : Hid ((ad8.add (b * 9)).block < w12.heap.size) := Lib.hid (by rw [add_block]; exact hadb)
    have HY1 := Lib.hid y1
    have HY6 := Lib.hid y6
    clear y1 y6 hadb
    have HBN : Hid (b < l.length + 1) := Lib.hid (by rw [← HALN.out]; exact hb8)
    clear HALN HALE
    generalize all.length = n8 at *
    have hb0 : (0 : Int) ≤ (b : Int) := by omega
    have hb0n : ¬ (b : Int) < 0 := by omega
    have hbI : (b : Int) < (n8 : Int) := by omega
    have hbIn : ¬ (n8 : Int) ≤ (b : Int) := by omega
    have KEEP : Hid (∀ w', Below w12.heap.size w12 w' → (w'.cell? ⟨w.heap.size + 1, 0, none⟩ = some (.string (bstr c.key)) ∧ w'.cell? ⟨(ad8.add (b * 9)).block, (ad8.add (b * 9)).off + 1, none⟩ = some (.string (bstr c.key)) ∧ w'.cell? ⟨(ad8.add (b * 9)).block, (ad8.add (b * 9)).off + 6, none⟩ = some (.int .i64 at_))) := Lib.hid (fun w' hg => by
      have h1 := HKC12.out.same (same_below hg) HKC12.out.lt
      have hyb := HYB.out
      exact ⟨h1.cell 0, (hg.cell (p := ⟨(ad8.add (b * 9)).block, (ad8.add (b * 9)).off + 1, none⟩) hyb).trans HY1.out, (hg.cell (p := ⟨(ad8.add (b * 9)).block, (ad8.add (b * 9)).off + 6, none⟩) hyb).trans HY6.out⟩)
    clear hlc8 hlm8
    go_wp2_with fail
    have hbe : ((bstr c.key).toList == (bstr c.key).toList) = true := beq_self_eq_true _
    by_cases hbl : b < l.length
    · have hblI : (b : Int) < (l.length : Int) := by omega
      clear hlast hbl
      refine wp_region_held_drew (S := fun w' => w'.cell? ⟨w.heap.size + 1, 0, none⟩ = some (.string (bstr c.key)) ∧ w'.cell? ⟨(ad8.add (b * 9)).block, (ad8.add (b * 9)).off + 1, none⟩ = some (.string (bstr c.key)) ∧ w'.cell? ⟨(ad8.add (b * 9)).block, (ad8.add (b * 9)).off + 6, none⟩ = some (.int .i64 at_)) (by kernel_rfl) (KEEP.out _ (Below.drew (Below.refl _ _))) (fun hHeld => ?_)
      obtain ⟨wq, hwq⟩ : ∃ wq, wq = World.drew w12 := ⟨_, rfl⟩
      have HG0 : Hid (Below w12.heap.size w12 wq) := Lib.hid (by rw [hwq]; exact Below.drew (Below.refl _ _))
      rw [← hwq] at hHeld ⊢
      clear hwq
      refine wpAnyH_take (i := 0) (v := ?_) rfl (by kernel_rfl) (by kernel_rfl) (by kernel_rfl) (fun _ _ _ h => h) (Or.inl ⟨by rfl, ?_⟩) (by assumption) ?_
      rotate_left
      · (intro w hSw; (try dsimp only at hSw); go_simp; try with_reducible rfl)
      try simp only [List.getElem_toArray, List.getElem_cons_succ, List.getElem_cons_zero, Act.put, List.setIfInBounds_toArray, List.set_cons_zero, List.set_cons_succ]
      refine wpAnyH_take (i := 1) (v := ?_) rfl (by kernel_rfl) (by kernel_rfl) (by kernel_rfl) (fun _ _ _ h => h) (Or.inl ⟨by rfl, ?_⟩) (by assumption) ?_
      rotate_left
      · (intro w hSw; (try dsimp only at hSw); go_simp; try with_reducible rfl)
      try simp only [List.getElem_toArray, List.getElem_cons_succ, List.getElem_cons_zero, Act.put, List.setIfInBounds_toArray, List.set_cons_zero, List.set_cons_succ]
      refine wpAnyH_take (i := 2) (v := ?_) rfl (by kernel_rfl) (by kernel_rfl) (by kernel_rfl) (fun _ _ _ h => h) (Or.inl ⟨by rfl, ?_⟩) (by assumption) ?_
      rotate_left
      · (intro w hSw; (try dsimp only at hSw); go_simp; try with_reducible rfl)
      try simp only [List.getElem_toArray, List.getElem_cons_succ, List.getElem_cons_zero, Act.put, List.setIfInBounds_toArray, List.set_cons_zero, List.set_cons_succ]
      refine wpAnyH_take (i := 3) (v := ?_) rfl (by kernel_rfl) (by kernel_rfl) (by kernel_rfl) (fun _ _ _ h => h) (Or.inl ⟨by rfl, ?_⟩) (by assumption) ?_
      rotate_left
      · (intro w hSw; (try dsimp only at hSw); go_simp; try with_reducible rfl)
      try simp only [List.getElem_toArray, List.getElem_cons_succ, List.getElem_cons_zero, Act.put, List.setIfInBounds_toArray, List.set_cons_zero, List.set_cons_succ]
      refine wpAnyH_take (i := 4) (v := ?_) rfl (by kernel_rfl) (by kernel_rfl) (by kernel_rfl) (fun _ _ _ h => h) (Or.inl ⟨by rfl, ?_⟩) (by assumption) ?_
      rotate_left
      · (intro w hSw; (try dsimp only at hSw); go_simp; try with_reducible rfl)
      try simp only [List.getElem_toArray, List.getElem_cons_succ, List.getElem_cons_zero, Act.put, List.setIfInBounds_toArray, List.set_cons_zero, List.set_cons_succ]
      refine wpAnyH_take (i := 5) (v := ?_) rfl (by kernel_rfl) (by kernel_rfl) (by kernel_rfl) (fun _ _ _ h => h) (Or.inl ⟨by rfl, ?_⟩) (by assumption) ?_
      rotate_left
      · (intro w hSw; (try dsimp only at hSw); go_simp; try with_reducible rfl)
      try simp only [List.getElem_toArray, List.getElem_cons_succ, List.getElem_cons_zero, Act.put, List.setIfInBounds_toArray, List.set_cons_zero, List.set_cons_succ]
      refine wpAnyH_take (i := 6) (v := ?_) rfl (by kernel_rfl) (by kernel_rfl) (by kernel_rfl) (fun _ _ _ h => h) (Or.inl ⟨by rfl, ?_⟩) (by assumption) ?_
      rotate_left
      · (intro w hSw; (try dsimp only at hSw); go_simp; try with_reducible rfl)
      try simp only [List.getElem_toArray, List.getElem_cons_succ, List.getElem_cons_zero, Act.put, List.setIfInBounds_toArray, List.set_cons_zero, List.set_cons_succ]
      refine wpAnyH_take (i := 7) (v := ?_) rfl (by kernel_rfl) (by kernel_rfl) (by kernel_rfl) (fun _ _ _ h => h) (Or.inl ⟨by rfl, ?_⟩) (by assumption) ?_
      rotate_left
      · (intro w hSw; (try dsimp only at hSw); go_simp; try with_reducible rfl)
      try simp only [List.getElem_toArray, List.getElem_cons_succ, List.getElem_cons_zero, Act.put, List.setIfInBounds_toArray, List.set_cons_zero, List.set_cons_succ]
      refine wpAnyH_take (i := 8) (v := ?_) rfl (by kernel_rfl) (by kernel_rfl) (by kernel_rfl) (fun _ _ _ h => h) (Or.inl ⟨by rfl, ?_⟩) (by assumption) ?_
      rotate_left
      · (intro w hSw; (try dsimp only at hSw); go_simp; try with_reducible rfl)
      try simp only [List.getElem_toArray, List.getElem_cons_succ, List.getElem_cons_zero, Act.put, List.setIfInBounds_toArray, List.set_cons_zero, List.set_cons_succ]
      refine wpAnyH_take (i := 9) (v := ?_) rfl (by kernel_rfl) (by kernel_rfl) (by kernel_rfl) (fun _ _ _ h => h) (Or.inl ⟨by rfl, ?_⟩) (by assumption) ?_
      rotate_left
      · (intro w hSw; (try dsimp only at hSw); go_simp; try with_reducible rfl)
      try simp only [List.getElem_toArray, List.getElem_cons_succ, List.getElem_cons_zero, Act.put, List.setIfInBounds_toArray, List.set_cons_zero, List.set_cons_succ]
      refine wpAnyH_take (i := 10) (v := ?_) rfl (by kernel_rfl) (by kernel_rfl) (by kernel_rfl) (fun _ _ _ h => h) (Or.inl ⟨by rfl, ?_⟩) (by assumption) ?_
      rotate_left
      · (intro w hSw; (try dsimp only at hSw); go_simp; try with_reducible rfl)
      try simp only [List.getElem_toArray, List.getElem_cons_succ, List.getElem_cons_zero, Act.put, List.setIfInBounds_toArray, List.set_cons_zero, List.set_cons_succ]
      refine wpAnyH_take (i := 11) (v := ?_) rfl (by kernel_rfl) (by kernel_rfl) (by kernel_rfl) (fun _ _ _ h => h) (Or.inl ⟨by rfl, ?_⟩) (by assumption) ?_
      rotate_left
      · (intro w hSw; (try dsimp only at hSw); go_simp; try with_reducible rfl)
      try simp only [List.getElem_toArray, List.getElem_cons_succ, List.getElem_cons_zero, Act.put, List.setIfInBounds_toArray, List.set_cons_zero, List.set_cons_succ]
      refine wpAnyH_take (i := 12) (v := ?_) rfl (by kernel_rfl) (by kernel_rfl) (by kernel_rfl) (fun _ _ _ h => h) (Or.inl ⟨by rfl, ?_⟩) (by assumption) ?_
      rotate_left
      · (intro w hSw; (try dsimp only at hSw); go_simp; try with_reducible rfl)
      try simp only [List.getElem_toArray, List.getElem_cons_succ, List.getElem_cons_zero, Act.put, List.setIfInBounds_toArray, List.set_cons_zero, List.set_cons_succ]
      refine wpAnyH_take (i := 13) (v := ?_) rfl (by kernel_rfl) (by kernel_rfl) (by kernel_rfl) (fun _ _ _ h => h) (Or.inl ⟨by rfl, ?_⟩) (by assumption) ?_
      rotate_left
      · (intro w hSw; (try dsimp only at hSw); go_simp; try with_reducible rfl)
      try simp only [List.getElem_toArray, List.getElem_cons_succ, List.getElem_cons_zero, Act.put, List.setIfInBounds_toArray, List.set_cons_zero, List.set_cons_succ]
      refine wpAnyH_take (i := 14) (v := ?_) rfl (by kernel_rfl) (by kernel_rfl) (by kernel_rfl) (fun _ _ _ h => h) (Or.inl ⟨by rfl, ?_⟩) (by assumption) ?_
      rotate_left
      · (intro w hSw; (try dsimp only at hSw); go_simp; try with_reducible rfl)
      try simp only [List.getElem_toArray, List.getElem_cons_succ, List.getElem_cons_zero, Act.put, List.setIfInBounds_toArray, List.set_cons_zero, List.set_cons_succ]
      refine wpAnyH_take (i := 15) (v := ?_) rfl (by kernel_rfl) (by kernel_rfl) (by kernel_rfl) (fun _ _ _ h => h) (Or.inl ⟨by rfl, ?_⟩) (by assumption) ?_
      rotate_left
      · (intro w hSw; (try dsimp only at hSw); go_simp; try with_reducible rfl)
      try simp only [List.getElem_toArray, List.getElem_cons_succ, List.getElem_cons_zero, Act.put, List.setIfInBounds_toArray, List.set_cons_zero, List.set_cons_succ]
      refine wpAnyH_take (i := 16) (v := ?_) rfl (by kernel_rfl) (by kernel_rfl) (by kernel_rfl) (fun _ _ _ h => h) (Or.inl ⟨by rfl, ?_⟩) (by assumption) ?_
      rotate_left
      · (intro w hSw; (try dsimp only at hSw); go_simp; try with_reducible rfl)
      try simp only [List.getElem_toArray, List.getElem_cons_succ, List.getElem_cons_zero, Act.put, List.setIfInBounds_toArray, List.set_cons_zero, List.set_cons_succ]
      refine wpAnyH_take (i := 17) (v := ?_) rfl (by kernel_rfl) (by kernel_rfl) (by kernel_rfl) (fun _ _ _ h => h) (Or.inl ⟨by rfl, ?_⟩) (by assumption) ?_
      rotate_left
      · (intro w hSw; (try dsimp only at hSw); go_simp; try with_reducible rfl)
      try simp only [List.getElem_toArray, List.getElem_cons_succ, List.getElem_cons_zero, Act.put, List.setIfInBounds_toArray, List.set_cons_zero, List.set_cons_succ]
      refine wpAnyH_take (i := 18) (v := ?_) rfl (by kernel_rfl) (by kernel_rfl) (by kernel_rfl) (fun _ _ _ h => h) (Or.inl ⟨by rfl, ?_⟩) (by assumption) ?_
      rotate_left
      · (intro w hSw; (try dsimp only at hSw); go_simp; try with_reducible rfl)
      try simp only [List.getElem_toArray, List.getElem_cons_succ, List.getElem_cons_zero, Act.put, List.setIfInBounds_toArray, List.set_cons_zero, List.set_cons_succ]
      refine wpAnyH_take (i := 19) (v := ?_) rfl (by kernel_rfl) (by kernel_rfl) (by kernel_rfl) (fun _ _ _ h => h) (Or.inl ⟨by rfl, ?_⟩) (by assumption) ?_
      rotate_left
      · (intro w hSw; (try dsimp only at hSw); go_simp; try with_reducible rfl)
      try simp only [List.getElem_toArray, List.getElem_cons_succ, List.getElem_cons_zero, Act.put, List.setIfInBounds_toArray, List.set_cons_zero, List.set_cons_succ]
      refine wpAnyH_take (i := 20) (v := ?_) rfl (by kernel_rfl) (by kernel_rfl) (by kernel_rfl) (fun _ _ _ h => h) (Or.inl ⟨by rfl, ?_⟩) (by assumption) ?_
      rotate_left
      · (intro w hSw; (try dsimp only at hSw); go_simp; try with_reducible rfl)
      try simp only [List.getElem_toArray, List.getElem_cons_succ, List.getElem_cons_zero, Act.put, List.setIfInBounds_toArray, List.set_cons_zero, List.set_cons_succ]
      refine wpAnyH_take (i := 21) (v := ?_) rfl (by kernel_rfl) (by kernel_rfl) (by kernel_rfl) (fun _ _ _ h => h) (Or.inl ⟨by rfl, ?_⟩) (by assumption) ?_
      rotate_left
      · (intro w hSw; (try dsimp only at hSw); go_simp; try with_reducible rfl)
      try simp only [List.getElem_toArray, List.getElem_cons_succ, List.getElem_cons_zero, Act.put, List.setIfInBounds_toArray, List.set_cons_zero, List.set_cons_succ]
      refine wpAnyH_take (i := 22) (v := ?_) rfl (by kernel_rfl) (by kernel_rfl) (by kernel_rfl) (fun _ _ _ h => h) (Or.inl ⟨by rfl, ?_⟩) (by assumption) ?_
      rotate_left
      · (intro w hSw; (try dsimp only at hSw); go_simp; try with_reducible rfl)
      try simp only [List.getElem_toArray, List.getElem_cons_succ, List.getElem_cons_zero, Act.put, List.setIfInBounds_toArray, List.set_cons_zero, List.set_cons_succ]
      refine wpAnyH_done (by kernel_rfl) ?_ _
      clear hHeld KEEP
      have HB13 := Lib.hid (HB12.out.trans (HG0.out.mono HB12.out.size))
      go_wp2_with fail
      refine (awake_any _).mono ?_
      rintro e wz ⟨rfl, hb⟩
      have HBZ := Lib.hid (HB13.out.trans (hb.mono HB13.out.size))
      clear hb
      go_wp2_with fail
      go_ret
      exact ⟨rfl, HBZ.out⟩
    have hm0 := hlast (by have := HBN.out; omega)
    have hblI : ¬ (b : Int) < (l.length : Int) := by omega
    have HBEQ : Hid ((b : Int) = (l.length : Int)) := Lib.hid (by have := HBN.out; omega)
    subst hm0
    clear hlast hbl
    refine wp_region_held_drew (S := fun w' => w'.cell? ⟨w.heap.size + 1, 0, none⟩ = some (.string (bstr c.key)) ∧ w'.cell? ⟨(ad8.add (b * 9)).block, (ad8.add (b * 9)).off + 1, none⟩ = some (.string (bstr c.key)) ∧ w'.cell? ⟨(ad8.add (b * 9)).block, (ad8.add (b * 9)).off + 6, none⟩ = some (.int .i64 at_)) (by kernel_rfl) (KEEP.out _ (Below.drew (Below.refl _ _))) (fun hHeld => ?_)
    obtain ⟨wq, hwq⟩ : ∃ wq, wq = World.drew w12 := ⟨_, rfl⟩
    have HG0 : Hid (Below w12.heap.size w12 wq) := Lib.hid (by rw [hwq]; exact Below.drew (Below.refl _ _))
    rw [← hwq] at hHeld ⊢
    clear hwq
    refine wpAnyH_take (i := 0) (v := ?_) rfl (by kernel_rfl) (by kernel_rfl) (by kernel_rfl) (fun _ _ _ h => h) (Or.inl ⟨by rfl, ?_⟩) (by assumption) ?_
    rotate_left
    · (intro w hSw; (try dsimp only at hSw); go_simp; try with_reducible rfl)
    try simp only [List.getElem_toArray, List.getElem_cons_succ, List.getElem_cons_zero, Act.put, List.setIfInBounds_toArray, List.set_cons_zero, List.set_cons_succ]
    refine wpAnyH_take (i := 1) (v := ?_) rfl (by kernel_rfl) (by kernel_rfl) (by kernel_rfl) (fun _ _ _ h => h) (Or.inl ⟨by rfl, ?_⟩) (by assumption) ?_
    rotate_left
    · (intro w hSw; (try dsimp only at hSw); go_simp; try with_reducible rfl)
    try simp only [List.getElem_toArray, List.getElem_cons_succ, List.getElem_cons_zero, Act.put, List.setIfInBounds_toArray, List.set_cons_zero, List.set_cons_succ]
    refine wpAnyH_take (i := 2) (v := ?_) rfl (by kernel_rfl) (by kernel_rfl) (by kernel_rfl) (fun _ _ _ h => h) (Or.inl ⟨by rfl, ?_⟩) (by assumption) ?_
    rotate_left
    · (intro w hSw; (try dsimp only at hSw); go_simp; try with_reducible rfl)
    try simp only [List.getElem_toArray, List.getElem_cons_succ, List.getElem_cons_zero, Act.put, List.setIfInBounds_toArray, List.set_cons_zero, List.set_cons_succ]
    refine wpAnyH_take (i := 3) (v := ?_) rfl (by kernel_rfl) (by kernel_rfl) (by kernel_rfl) (fun _ _ _ h => h) (Or.inl ⟨by rfl, ?_⟩) (by assumption) ?_
    rotate_left
    · (intro w hSw; (try dsimp only at hSw); go_simp; try with_reducible rfl)
    try simp only [List.getElem_toArray, List.getElem_cons_succ, List.getElem_cons_zero, Act.put, List.setIfInBounds_toArray, List.set_cons_zero, List.set_cons_succ]
    refine wpAnyH_take (i := 4) (v := ?_) rfl (by kernel_rfl) (by kernel_rfl) (by kernel_rfl) (fun _ _ _ h => h) (Or.inl ⟨by rfl, ?_⟩) (by assumption) ?_
    rotate_left
    · (intro w hSw; (try dsimp only at hSw); go_simp; try with_reducible rfl)
    try simp only [List.getElem_toArray, List.getElem_cons_succ, List.getElem_cons_zero, Act.put, List.setIfInBounds_toArray, List.set_cons_zero, List.set_cons_succ]
    refine wpAnyH_take (i := 5) (v := ?_) rfl (by kernel_rfl) (by kernel_rfl) (by kernel_rfl) (fun _ _ _ h => h) (Or.inl ⟨by rfl, ?_⟩) (by assumption) ?_
    rotate_left
    · (intro w hSw; (try dsimp only at hSw); go_simp; try with_reducible rfl)
    try simp only [List.getElem_toArray, List.getElem_cons_succ, List.getElem_cons_zero, Act.put, List.setIfInBounds_toArray, List.set_cons_zero, List.set_cons_succ]
    refine wpAnyH_take (i := 6) (v := ?_) rfl (by kernel_rfl) (by kernel_rfl) (by kernel_rfl) (fun _ _ _ h => h) (Or.inl ⟨by rfl, ?_⟩) (by assumption) ?_
    rotate_left
    · (intro w hSw; (try dsimp only at hSw); go_simp; try with_reducible rfl)
    try simp only [List.getElem_toArray, List.getElem_cons_succ, List.getElem_cons_zero, Act.put, List.setIfInBounds_toArray, List.set_cons_zero, List.set_cons_succ]
    refine wpAnyH_take (i := 7) (v := ?_) rfl (by kernel_rfl) (by kernel_rfl) (by kernel_rfl) (fun _ _ _ h => h) (Or.inl ⟨by rfl, ?_⟩) (by assumption) ?_
    rotate_left
    · (intro w hSw; (try dsimp only at hSw); go_simp; try with_reducible rfl)
    try simp only [List.getElem_toArray, List.getElem_cons_succ, List.getElem_cons_zero, Act.put, List.setIfInBounds_toArray, List.set_cons_zero, List.set_cons_succ]
    refine wpAnyH_take (i := 8) (v := ?_) rfl (by kernel_rfl) (by kernel_rfl) (by kernel_rfl) (fun _ _ _ h => h) (Or.inl ⟨by rfl, ?_⟩) (by assumption) ?_
    rotate_left
    · (intro w hSw; (try dsimp only at hSw); go_simp; try with_reducible rfl)
    try simp only [List.getElem_toArray, List.getElem_cons_succ, List.getElem_cons_zero, Act.put, List.setIfInBounds_toArray, List.set_cons_zero, List.set_cons_succ]
    refine wpAnyH_take (i := 9) (v := ?_) rfl (by kernel_rfl) (by kernel_rfl) (by kernel_rfl) (fun _ _ _ h => h) (Or.inl ⟨by rfl, ?_⟩) (by assumption) ?_
    rotate_left
    · (intro w hSw; (try dsimp only at hSw); go_simp; try with_reducible rfl)
    try simp only [List.getElem_toArray, List.getElem_cons_succ, List.getElem_cons_zero, Act.put, List.setIfInBounds_toArray, List.set_cons_zero, List.set_cons_succ]
    refine wpAnyH_take (i := 10) (v := ?_) rfl (by kernel_rfl) (by kernel_rfl) (by kernel_rfl) (fun _ _ _ h => h) (Or.inl ⟨by rfl, ?_⟩) (by assumption) ?_
    rotate_left
    · (intro w hSw; (try dsimp only at hSw); go_simp; try with_reducible rfl)
    try simp only [List.getElem_toArray, List.getElem_cons_succ, List.getElem_cons_zero, Act.put, List.setIfInBounds_toArray, List.set_cons_zero, List.set_cons_succ]
    refine wpAnyH_take (i := 11) (v := ?_) rfl (by kernel_rfl) (by kernel_rfl) (by kernel_rfl) (fun _ _ _ h => h) (Or.inl ⟨by rfl, ?_⟩) (by assumption) ?_
    rotate_left
    · (intro w hSw; (try dsimp only at hSw); go_simp; try with_reducible rfl)
    try simp only [List.getElem_toArray, List.getElem_cons_succ, List.getElem_cons_zero, Act.put, List.setIfInBounds_toArray, List.set_cons_zero, List.set_cons_succ]
    refine wpAnyH_take (i := 12) (v := ?_) rfl (by kernel_rfl) (by kernel_rfl) (by kernel_rfl) (fun _ _ _ h => h) (Or.inl ⟨by rfl, ?_⟩) (by assumption) ?_
    rotate_left
    · (intro w hSw; (try dsimp only at hSw); go_simp; try with_reducible rfl)
    try simp only [List.getElem_toArray, List.getElem_cons_succ, List.getElem_cons_zero, Act.put, List.setIfInBounds_toArray, List.set_cons_zero, List.set_cons_succ]
    refine wpAnyH_take (i := 13) (v := ?_) rfl (by kernel_rfl) (by kernel_rfl) (by kernel_rfl) (fun _ _ _ h => h) (Or.inl ⟨by rfl, ?_⟩) (by assumption) ?_
    rotate_left
    · (intro w hSw; (try dsimp only at hSw); go_simp; try with_reducible rfl)
    try simp only [List.getElem_toArray, List.getElem_cons_succ, List.getElem_cons_zero, Act.put, List.setIfInBounds_toArray, List.set_cons_zero, List.set_cons_succ]
    refine wpAnyH_take (i := 14) (v := ?_) rfl (by kernel_rfl) (by kernel_rfl) (by kernel_rfl) (fun _ _ _ h => h) (Or.inl ⟨by rfl, ?_⟩) (by assumption) ?_
    rotate_left
    · (intro w hSw; (try dsimp only at hSw); go_simp; try with_reducible rfl)
    try simp only [List.getElem_toArray, List.getElem_cons_succ, List.getElem_cons_zero, Act.put, List.setIfInBounds_toArray, List.set_cons_zero, List.set_cons_succ]
    refine wpAnyH_take (i := 15) (v := ?_) rfl (by kernel_rfl) (by kernel_rfl) (by kernel_rfl) (fun _ _ _ h => h) (Or.inl ⟨by rfl, ?_⟩) (by assumption) ?_
    rotate_left
    · (intro w hSw; (try dsimp only at hSw); go_simp; try with_reducible rfl)
    try simp only [List.getElem_toArray, List.getElem_cons_succ, List.getElem_cons_zero, Act.put, List.setIfInBounds_toArray, List.set_cons_zero, List.set_cons_succ]
    refine wpAnyH_take (i := 16) (v := ?_) rfl (by kernel_rfl) (by kernel_rfl) (by kernel_rfl) (fun _ _ _ h => h) (Or.inl ⟨by rfl, ?_⟩) (by assumption) ?_
    rotate_left
    · (intro w hSw; (try dsimp only at hSw); go_simp; try with_reducible rfl)
    try simp only [List.getElem_toArray, List.getElem_cons_succ, List.getElem_cons_zero, Act.put, List.setIfInBounds_toArray, List.set_cons_zero, List.set_cons_succ]
    refine wpAnyH_take (i := 17) (v := ?_) rfl (by kernel_rfl) (by kernel_rfl) (by kernel_rfl) (fun _ _ _ h => h) (Or.inl ⟨by rfl, ?_⟩) (by assumption) ?_
    rotate_left
    · (intro w hSw; (try dsimp only at hSw); go_simp; try with_reducible rfl)
    try simp only [List.getElem_toArray, List.getElem_cons_succ, List.getElem_cons_zero, Act.put, List.setIfInBounds_toArray, List.set_cons_zero, List.set_cons_succ]
    refine wpAnyH_take (i := 18) (v := ?_) rfl (by kernel_rfl) (by kernel_rfl) (by kernel_rfl) (fun _ _ _ h => h) (Or.inl ⟨by rfl, ?_⟩) (by assumption) ?_
    rotate_left
    · (intro w hSw; (try dsimp only at hSw); go_simp; try with_reducible rfl)
    try simp only [List.getElem_toArray, List.getElem_cons_succ, List.getElem_cons_zero, Act.put, List.setIfInBounds_toArray, List.set_cons_zero, List.set_cons_succ]
    refine wpAnyH_take (i := 19) (v := ?_) rfl (by kernel_rfl) (by kernel_rfl) (by kernel_rfl) (fun _ _ _ h => h) (Or.inl ⟨by rfl, ?_⟩) (by assumption) ?_
    rotate_left
    · (intro w hSw; (try dsimp only at hSw); go_simp; try with_reducible rfl)
    try simp only [List.getElem_toArray, List.getElem_cons_succ, List.getElem_cons_zero, Act.put, List.setIfInBounds_toArray, List.set_cons_zero, List.set_cons_succ]
    refine wpAnyH_take (i := 20) (v := ?_) rfl (by kernel_rfl) (by kernel_rfl) (by kernel_rfl) (fun _ _ _ h => h) (Or.inl ⟨by rfl, ?_⟩) (by assumption) ?_
    rotate_left
    · (intro w hSw; (try dsimp only at hSw); go_simp; try with_reducible rfl)
    try simp only [List.getElem_toArray, List.getElem_cons_succ, List.getElem_cons_zero, Act.put, List.setIfInBounds_toArray, List.set_cons_zero, List.set_cons_succ]
    refine wpAnyH_take (i := 21) (v := ?_) rfl (by kernel_rfl) (by kernel_rfl) (by kernel_rfl) (fun _ _ _ h => h) (Or.inl ⟨by rfl, ?_⟩) (by assumption) ?_
    rotate_left
    · (intro w hSw; (try dsimp only at hSw); go_simp; try with_reducible rfl)
    try simp only [List.getElem_toArray, List.getElem_cons_succ, List.getElem_cons_zero, Act.put, List.setIfInBounds_toArray, List.set_cons_zero, List.set_cons_succ]
    refine wpAnyH_take (i := 22) (v := ?_) rfl (by kernel_rfl) (by kernel_rfl) (by kernel_rfl) (fun _ _ _ h => h) (Or.inl ⟨by rfl, ?_⟩) (by assumption) ?_
    rotate_left
    · (intro w hSw; (try dsimp only at hSw); go_simp; try with_reducible rfl)
    try simp only [List.getElem_toArray, List.getElem_cons_succ, List.getElem_cons_zero, Act.put, List.setIfInBounds_toArray, List.set_cons_zero, List.set_cons_succ]
    refine wpAnyH_done (by kernel_rfl) ?_ _
    clear hHeld KEEP
    have HB13 := Lib.hid (HB12.out.trans (HG0.out.mono HB12.out.size))
    have hbeq : ((b : Int) == (l.length : Int)) = true := by rw [HBEQ.out]; exact beq_self_eq_true _
    go_wp2_with fail
    refine (awake_any _).mono ?_
    rintro e wz ⟨rfl, hb⟩
    have HBZ := Lib.hid (HB13.out.trans (hb.mono HB13.out.size))
    clear hb
    go_wp2_with fail
    go_ret
    exact ⟨rfl, HBZ.out⟩
  · have HROW := Lib.hid (Blk.new wq 37 [.string ⟨#[122, 122, 45, 104, 105, 100, 101]⟩, .string (bstr c.key), .int .i64 0, .int .i64 253402300800, .int .i64 at_, .int .i64 (at_ + 1), .int .i64 at_, .int .i64 4, .string ⟨#[]⟩])
    have HAL := Lib.hid ((Below.refl wq.heap.size wq).alloc (Nat.le_refl _) (.cells #[.string ⟨#[122, 122, 45, 104, 105, 100, 101]⟩, .string (bstr c.key), .int .i64 0, .int .i64 253402300800, .int .i64 at_, .int .i64 (at_ + 1), .int .i64 at_, .int .i64 4, .string ⟨#[]⟩] 37))
    have HG5 : Hid (Below w4.heap.size w4 (wq.alloc (.cells #[.string ⟨#[122, 122, 45, 104, 105, 100, 101]⟩, .string (bstr c.key), .int .i64 0, .int .i64 253402300800, .int .i64 at_, .int .i64 (at_ + 1), .int .i64 at_, .int .i64 4, .string ⟨#[]⟩] 37))) := Lib.hid (HG0.out.trans (HAL.out.mono HG0.out.size))
    rw [if_pos (by rfl)]
    simp only [List.getElem_toArray, List.getElem_cons_succ, List.getElem_cons_zero]
    go_simp
    refine hK.out _ _ (KEEP.out _ HG5.out) (fun hHeld => ?_)
    clear hK K
    try simp only [List.getElem_toArray, List.getElem_cons_succ, List.getElem_cons_zero, Act.put, List.setIfInBounds_toArray, List.set_cons_zero, List.set_cons_succ]
    refine wpAnyH_ready (rs := [1]) (by kernel_rfl) (by simp) ?_
    refine AllReadyH.cons rfl (fun K hK => ?_) AllReadyH.nil
    rw [if_pos (by rfl)]
    simp only [List.getElem_toArray, List.getElem_cons_succ, List.getElem_cons_zero]
    go_simp
    go_at_call 15
    refine (clone_rgt_any _ l _ (Rp.ext _ (Rp.ext _ H1.out HB4.out) HG5.out) (by omega)).mono ?_
    rintro e w6 ⟨vq, rfl, ho, hw⟩
    have HO5 := Lib.hid ho
    have HKW := Lib.hid hw
    have HG6 : Hid (Below w4.heap.size w4 w6) := Lib.hid (HG5.out.trans (hw.mono HG5.out.size))
    clear ho hw
    show K _ w6
    refine hK.out _ _ (KEEP.out _ HG6.out) (fun hHeld => ?_)
    clear hK K
    try simp only [List.getElem_toArray, List.getElem_cons_succ, List.getElem_cons_zero, Act.put, List.setIfInBounds_toArray, List.set_cons_zero, List.set_cons_succ]
    have HRX2 := HROW.out
    clear HROW
    have HROW := Lib.hid (HRX2.same (same_below HKW.out) (by simp))
    clear HRX2
    refine wpAnyH_ready (rs := [4]) (by kernel_rfl) (by simp) ?_
    refine AllReadyH.cons rfl (fun K hK => ?_) AllReadyH.nil
    refine step_app_blk (by rfl) (.tmp 51) (.tmp 53) 23 (by rfl) 37 (.agg #[.string ⟨#[]⟩, .string ⟨#[]⟩, .int .i64 0, .int .i64 0, .int .i64 0, .int .i64 0, .int .i64 0, .int .i64 0, .string ⟨#[]⟩]) 9 96 Tryd.underlying23 rgt_info rfl (by decide) (m := 1) [.string ⟨#[122, 122, 45, 104, 105, 100, 101]⟩, .string (bstr c.key), .int .i64 0, .int .i64 253402300800, .int .i64 at_, .int .i64 (at_ + 1), .int .i64 at_, .int .i64 4, .string ⟨#[]⟩] HROW.out HO5.out (by have h1 := HKW.out.size; (try simp only [World.size_alloc] at h1); (try simp only [World.size_alloc]); omega) rfl rfl rfl (by simp [Value.oneCell']) (by unfold maxLen; omega) (by omega) ?_
    intro v8 w8 HO8 HG8
    have HB8 : Hid (Below w4.heap.size w4 w8) := Lib.hid (HG6.out.grown HG8.out HG6.out.size (fun g hg => by have h1 := (HO5.out.lt g hg).1; have h2 := HG5.out.size; omega))
    refine hK.out _ _ (KEEP.out _ HB8.out) (fun hHeld => ?_)
    clear hK K
    try simp only [List.getElem_toArray, List.getElem_cons_succ, List.getElem_cons_zero, Act.put, List.setIfInBounds_toArray, List.set_cons_zero, List.set_cons_succ]
    refine wpAnyH_take (i := 5) (v := ?_) rfl (by kernel_rfl) (by kernel_rfl) (by kernel_rfl) (fun _ _ _ h => h) (Or.inl ⟨by rfl, ?_⟩) (by assumption) ?_
    rotate_left
    · (intro w hSw; (try dsimp only at hSw); go_simp; try with_reducible rfl)
    try simp only [List.getElem_toArray, List.getElem_cons_succ, List.getElem_cons_zero, Act.put, List.setIfInBounds_toArray, List.set_cons_zero, List.set_cons_succ]
    refine wpAnyH_done (by kernel_rfl) ?_ _
    have HALL : Hid ((Rp.sl rgtRp).ok w8 (· < w8.heap.size) [v8] all) := Lib.hid (by
      rw [HALE.out]
      have h8 := HO8.out
      rw [show l.flatMap rgtCells ++ [.string ⟨#[122, 122, 45, 104, 105, 100, 101]⟩, .string (bstr c.key), .int .i64 0, .int .i64 253402300800, .int .i64 at_, .int .i64 (at_ + 1), .int .i64 at_, .int .i64 4, .string ⟨#[]⟩] = (l ++ [hideR c at_]).flatMap rgtCells by rw [List.flatMap_append]; rfl] at h8
      exact rgts_read h8 (fun x hx => by
        rcases List.mem_append.1 hx with hx | hx
        · exact HOK.out x hx
        · rw [List.mem_singleton.1 hx]; exact HRX.out))
    clear hHeld KEEP HO8 HG8 HO5 HROW HKW HAL
    have HB9 := Lib.hid (HB4.out.trans (HB8.out.mono HB4.out.size))
    have HKV9 := Lib.hid (HKV4.out.same (same_below HB8.out) HKV4.out.lt)
    have HKC9 := Lib.hid (HKC4.out.same (same_below HB8.out) HKC4.out.lt)
    clear HB8
    obtain ⟨A8, c8, hv8, hlc8, hlm8, _⟩ := Rp.sl_open HALL.out
    subst hv8
    unfold maxLen at hlm8
    go_wp2_with fail
    refine (checkRights_any v0 t _ all w8 (Rp.ext _ H0.out HB9.out) HALL.out).mono ?_
    rintro e w10 ⟨rfl, hb⟩
    have HB10 := Lib.hid (HB9.out.trans (hb.mono HB9.out.size))
    have HKV10 := Lib.hid (HKV9.out.same (same_below hb) HKV9.out.lt)
    have HKC10 := Lib.hid (HKC9.out.same (same_below hb) HKC9.out.lt)
    have HALL10 := Lib.hid (Rp.ext _ HALL.out hb)
    clear hb HB9 HKV9 HKC9
    by_cases hf : rightsFault t all = 0
    case neg =>
      have hn : (rightsFault t all != 0) = true := by simpa using hf
      clear hf HLAW
      generalize rightsFault t all = f at *
      go_wp2_with fail
      refine (awake_any _).mono ?_
      rintro e wz ⟨rfl, hb⟩
      have HBZ := Lib.hid (HB10.out.trans (hb.mono HB10.out.size))
      clear hb
      go_wp2_with fail
      go_ret
      exact ⟨rfl, HBZ.out⟩
    obtain ⟨hm2, b, hb8, hrt, hpre, hmade, hlast⟩ := HLAW.out hf
    rw [hf]
    clear hf HLAW
    have m0 : w10.cell? ⟨w.heap.size, 0, none⟩ = some (.string (bstr who)) := HKV10.out.cell 0
    have m1 : w10.cell? ⟨w.heap.size, 1, none⟩ = some (.bool house) := HKV10.out.cell 1
    have c0 : w10.cell? ⟨w.heap.size + 1, 0, none⟩ = some (.string (bstr c.key)) := HKC10.out.cell 0
    have c1 : w10.cell? ⟨w.heap.size + 1, 1, none⟩ = some (.int .i64 c.time) := HKC10.out.cell 1
    go_wp2_with fail
    clear m0 m1 c0 c1
    refine (mayTop_any v0 t _ all who house c at_ w10 (Rp.ext _ H0.out HB10.out) HALL10.out hck hwl).mono ?_
    rintro e w11 ⟨rfl, hb⟩
    have HB11 := Lib.hid (HB10.out.trans (hb.mono HB10.out.size))
    have HKV11 := Lib.hid (HKV10.out.same (same_below hb) HKV10.out.lt)
    have HKC11 := Lib.hid (HKC10.out.same (same_below hb) HKC10.out.lt)
    have HALL11 := Lib.hid (Rp.ext _ HALL10.out hb)
    clear HALL10
    clear hb HB10 HKV10 HKC10
    rw [hm2]
    clear hm2
    generalize (mayTop t all who house c at_).1 = m2 at *
    have c0 : w11.cell? ⟨w.heap.size + 1, 0, none⟩ = some (.string (bstr c.key)) := HKC11.out.cell 0
    have c1 : w11.cell? ⟨w.heap.size + 1, 1, none⟩ = some (.int .i64 c.time) := HKC11.out.cell 1
    go_wp2_with fail
    clear c0 c1
    refine (rightTop_any v0 t _ all c at_ w11 (Rp.ext _ H0.out HB11.out) HALL11.out hck).mono ?_
    rintro e w12 ⟨rfl, hb⟩
    have HB12 := Lib.hid (HB11.out.trans (hb.mono HB11.out.size))
    have HKV12 := Lib.hid (HKV11.out.same (same_below hb) HKV11.out.lt)
    have HKC12 := Lib.hid (HKC11.out.same (same_below hb) HKC11.out.lt)
    have HALL12 := Lib.hid (Rp.ext _ HALL11.out hb)
    clear HALL11
    clear hb HB11 HKV11 HKC11
    rw [hrt]
    clear hrt
    dsimp only
    obtain ⟨ad8, c8', e8, hadb, y0, y1, y2, y3, y4, y5, y6, y7, y8, hy⟩ := rgt_at HALL12.out hb8
    injection e8 with e8 e8l e8c
    subst e8 e8c
    rw [hpre] at y1
    rw [hmade] at y6
    clear y0 y2 y3 y4 y5 y7 y8 hy hpre hmade e8l
    have HYB : Hid ((ad8.add (b * 9)).block < w12.heap.size) := Lib.hid (by rw [add_block]; exact hadb)
    have HY1 := Lib.hid y1
    have HY6 := Lib.hid y6
    clear y1 y6 hadb
    have HBN : Hid (b < l.length + 1) := Lib.hid (by rw [← HALN.out]; exact hb8)
    clear HALN HALE
    generalize all.length = n8 at *
    have hb0 : (0 : Int) ≤ (b : Int) := by omega
    have hb0n : ¬ (b : Int) < 0 := by omega
    have hbI : (b : Int) < (n8 : Int) := by omega
    have hbIn : ¬ (n8 : Int) ≤ (b : Int) := by omega
    have KEEP : Hid (∀ w', Below w12.heap.size w12 w' → (w'.cell? ⟨w.heap.size + 1, 0, none⟩ = some (.string (bstr c.key)) ∧ w'.cell? ⟨(ad8.add (b * 9)).block, (ad8.add (b * 9)).off + 1, none⟩ = some (.string (bstr c.key)) ∧ w'.cell? ⟨(ad8.add (b * 9)).block, (ad8.add (b * 9)).off + 6, none⟩ = some (.int .i64 at_))) := Lib.hid (fun w' hg => by
      have h1 := HKC12.out.same (same_below hg) HKC12.out.lt
      have hyb := HYB.out
      exact ⟨h1.cell 0, (hg.cell (p := ⟨(ad8.add (b * 9)).block, (ad8.add (b * 9)).off + 1, none⟩) hyb).trans HY1.out, (hg.cell (p := ⟨(ad8.add (b * 9)).block, (ad8.add (b * 9)).off + 6, none⟩) hyb).trans HY6.out⟩)
    clear hlc8 hlm8
    go_wp2_with fail
    have hbe : ((bstr c.key).toList == (bstr c.key).toList) = true := beq_self_eq_true _
    by_cases hbl : b < l.length
    · have hblI : (b : Int) < (l.length : Int) := by omega
      clear hlast hbl
      refine wp_region_held_drew (S := fun w' => w'.cell? ⟨w.heap.size + 1, 0, none⟩ = some (.string (bstr c.key)) ∧ w'.cell? ⟨(ad8.add (b * 9)).block, (ad8.add (b * 9)).off + 1, none⟩ = some (.string (bstr c.key)) ∧ w'.cell? ⟨(ad8.add (b * 9)).block, (ad8.add (b * 9)).off + 6, none⟩ = some (.int .i64 at_)) (by kernel_rfl) (KEEP.out _ (Below.drew (Below.refl _ _))) (fun hHeld => ?_)
      obtain ⟨wq, hwq⟩ : ∃ wq, wq = World.drew w12 := ⟨_, rfl⟩
      have HG0 : Hid (Below w12.heap.size w12 wq) := Lib.hid (by rw [hwq]; exact Below.drew (Below.refl _ _))
      rw [← hwq] at hHeld ⊢
      clear hwq
      refine wpAnyH_take (i := 0) (v := ?_) rfl (by kernel_rfl) (by kernel_rfl) (by kernel_rfl) (fun _ _ _ h => h) (Or.inl ⟨by rfl, ?_⟩) (by assumption) ?_
      rotate_left
      · (intro w hSw; (try dsimp only at hSw); go_simp; try with_reducible rfl)
      try simp only [List.getElem_toArray, List.getElem_cons_succ, List.getElem_cons_zero, Act.put, List.setIfInBounds_toArray, List.set_cons_zero, List.set_cons_succ]
      refine wpAnyH_take (i := 1) (v := ?_) rfl (by kernel_rfl) (by kernel_rfl) (by kernel_rfl) (fun _ _ _ h => h) (Or.inl ⟨by rfl, ?_⟩) (by assumption) ?_
      rotate_left
      · (intro w hSw; (try dsimp only at hSw); go_simp; try with_reducible rfl)
      try simp only [List.getElem_toArray, List.getElem_cons_succ, List.getElem_cons_zero, Act.put, List.setIfInBounds_toArray, List.set_cons_zero, List.set_cons_succ]
      refine wpAnyH_take (i := 2) (v := ?_) rfl (by kernel_rfl) (by kernel_rfl) (by kernel_rfl) (fun _ _ _ h => h) (Or.inl ⟨by rfl, ?_⟩) (by assumption) ?_
      rotate_left
      · (intro w hSw; (try dsimp only at hSw); go_simp; try with_reducible rfl)
      try simp only [List.getElem_toArray, List.getElem_cons_succ, List.getElem_cons_zero, Act.put, List.setIfInBounds_toArray, List.set_cons_zero, List.set_cons_succ]
      refine wpAnyH_take (i := 3) (v := ?_) rfl (by kernel_rfl) (by kernel_rfl) (by kernel_rfl) (fun _ _ _ h => h) (Or.inl ⟨by rfl, ?_⟩) (by assumption) ?_
      rotate_left
      · (intro w hSw; (try dsimp only at hSw); go_simp; try with_reducible rfl)
      try simp only [List.getElem_toArray, List.getElem_cons_succ, List.getElem_cons_zero, Act.put, List.setIfInBounds_toArray, List.set_cons_zero, List.set_cons_succ]
      refine wpAnyH_take (i := 4) (v := ?_) rfl (by kernel_rfl) (by kernel_rfl) (by kernel_rfl) (fun _ _ _ h => h) (Or.inl ⟨by rfl, ?_⟩) (by assumption) ?_
      rotate_left
      · (intro w hSw; (try dsimp only at hSw); go_simp; try with_reducible rfl)
      try simp only [List.getElem_toArray, List.getElem_cons_succ, List.getElem_cons_zero, Act.put, List.setIfInBounds_toArray, List.set_cons_zero, List.set_cons_succ]
      refine wpAnyH_take (i := 5) (v := ?_) rfl (by kernel_rfl) (by kernel_rfl) (by kernel_rfl) (fun _ _ _ h => h) (Or.inl ⟨by rfl, ?_⟩) (by assumption) ?_
      rotate_left
      · (intro w hSw; (try dsimp only at hSw); go_simp; try with_reducible rfl)
      try simp only [List.getElem_toArray, List.getElem_cons_succ, List.getElem_cons_zero, Act.put, List.setIfInBounds_toArray, List.set_cons_zero, List.set_cons_succ]
      refine wpAnyH_take (i := 6) (v := ?_) rfl (by kernel_rfl) (by kernel_rfl) (by kernel_rfl) (fun _ _ _ h => h) (Or.inl ⟨by rfl, ?_⟩) (by assumption) ?_
      rotate_left
      · (intro w hSw; (try dsimp only at hSw); go_simp; try with_reducible rfl)
      try simp only [List.getElem_toArray, List.getElem_cons_succ, List.getElem_cons_zero, Act.put, List.setIfInBounds_toArray, List.set_cons_zero, List.set_cons_succ]
      refine wpAnyH_take (i := 7) (v := ?_) rfl (by kernel_rfl) (by kernel_rfl) (by kernel_rfl) (fun _ _ _ h => h) (Or.inl ⟨by rfl, ?_⟩) (by assumption) ?_
      rotate_left
      · (intro w hSw; (try dsimp only at hSw); go_simp; try with_reducible rfl)
      try simp only [List.getElem_toArray, List.getElem_cons_succ, List.getElem_cons_zero, Act.put, List.setIfInBounds_toArray, List.set_cons_zero, List.set_cons_succ]
      refine wpAnyH_take (i := 8) (v := ?_) rfl (by kernel_rfl) (by kernel_rfl) (by kernel_rfl) (fun _ _ _ h => h) (Or.inl ⟨by rfl, ?_⟩) (by assumption) ?_
      rotate_left
      · (intro w hSw; (try dsimp only at hSw); go_simp; try with_reducible rfl)
      try simp only [List.getElem_toArray, List.getElem_cons_succ, List.getElem_cons_zero, Act.put, List.setIfInBounds_toArray, List.set_cons_zero, List.set_cons_succ]
      refine wpAnyH_take (i := 9) (v := ?_) rfl (by kernel_rfl) (by kernel_rfl) (by kernel_rfl) (fun _ _ _ h => h) (Or.inl ⟨by rfl, ?_⟩) (by assumption) ?_
      rotate_left
      · (intro w hSw; (try dsimp only at hSw); go_simp; try with_reducible rfl)
      try simp only [List.getElem_toArray, List.getElem_cons_succ, List.getElem_cons_zero, Act.put, List.setIfInBounds_toArray, List.set_cons_zero, List.set_cons_succ]
      refine wpAnyH_take (i := 10) (v := ?_) rfl (by kernel_rfl) (by kernel_rfl) (by kernel_rfl) (fun _ _ _ h => h) (Or.inl ⟨by rfl, ?_⟩) (by assumption) ?_
      rotate_left
      · (intro w hSw; (try dsimp only at hSw); go_simp; try with_reducible rfl)
      try simp only [List.getElem_toArray, List.getElem_cons_succ, List.getElem_cons_zero, Act.put, List.setIfInBounds_toArray, List.set_cons_zero, List.set_cons_succ]
      refine wpAnyH_take (i := 11) (v := ?_) rfl (by kernel_rfl) (by kernel_rfl) (by kernel_rfl) (fun _ _ _ h => h) (Or.inl ⟨by rfl, ?_⟩) (by assumption) ?_
      rotate_left
      · (intro w hSw; (try dsimp only at hSw); go_simp; try with_reducible rfl)
      try simp only [List.getElem_toArray, List.getElem_cons_succ, List.getElem_cons_zero, Act.put, List.setIfInBounds_toArray, List.set_cons_zero, List.set_cons_succ]
      refine wpAnyH_take (i := 12) (v := ?_) rfl (by kernel_rfl) (by kernel_rfl) (by kernel_rfl) (fun _ _ _ h => h) (Or.inl ⟨by rfl, ?_⟩) (by assumption) ?_
      rotate_left
      · (intro w hSw; (try dsimp only at hSw); go_simp; try with_reducible rfl)
      try simp only [List.getElem_toArray, List.getElem_cons_succ, List.getElem_cons_zero, Act.put, List.setIfInBounds_toArray, List.set_cons_zero, List.set_cons_succ]
      refine wpAnyH_take (i := 13) (v := ?_) rfl (by kernel_rfl) (by kernel_rfl) (by kernel_rfl) (fun _ _ _ h => h) (Or.inl ⟨by rfl, ?_⟩) (by assumption) ?_
      rotate_left
      · (intro w hSw; (try dsimp only at hSw); go_simp; try with_reducible rfl)
      try simp only [List.getElem_toArray, List.getElem_cons_succ, List.getElem_cons_zero, Act.put, List.setIfInBounds_toArray, List.set_cons_zero, List.set_cons_succ]
      refine wpAnyH_take (i := 14) (v := ?_) rfl (by kernel_rfl) (by kernel_rfl) (by kernel_rfl) (fun _ _ _ h => h) (Or.inl ⟨by rfl, ?_⟩) (by assumption) ?_
      rotate_left
      · (intro w hSw; (try dsimp only at hSw); go_simp; try with_reducible rfl)
      try simp only [List.getElem_toArray, List.getElem_cons_succ, List.getElem_cons_zero, Act.put, List.setIfInBounds_toArray, List.set_cons_zero, List.set_cons_succ]
      refine wpAnyH_take (i := 15) (v := ?_) rfl (by kernel_rfl) (by kernel_rfl) (by kernel_rfl) (fun _ _ _ h => h) (Or.inl ⟨by rfl, ?_⟩) (by assumption) ?_
      rotate_left
      · (intro w hSw; (try dsimp only at hSw); go_simp; try with_reducible rfl)
      try simp only [List.getElem_toArray, List.getElem_cons_succ, List.getElem_cons_zero, Act.put, List.setIfInBounds_toArray, List.set_cons_zero, List.set_cons_succ]
      refine wpAnyH_take (i := 16) (v := ?_) rfl (by kernel_rfl) (by kernel_rfl) (by kernel_rfl) (fun _ _ _ h => h) (Or.inl ⟨by rfl, ?_⟩) (by assumption) ?_
      rotate_left
      · (intro w hSw; (try dsimp only at hSw); go_simp; try with_reducible rfl)
      try simp only [List.getElem_toArray, List.getElem_cons_succ, List.getElem_cons_zero, Act.put, List.setIfInBounds_toArray, List.set_cons_zero, List.set_cons_succ]
      refine wpAnyH_take (i := 17) (v := ?_) rfl (by kernel_rfl) (by kernel_rfl) (by kernel_rfl) (fun _ _ _ h => h) (Or.inl ⟨by rfl, ?_⟩) (by assumption) ?_
      rotate_left
      · (intro w hSw; (try dsimp only at hSw); go_simp; try with_reducible rfl)
      try simp only [List.getElem_toArray, List.getElem_cons_succ, List.getElem_cons_zero, Act.put, List.setIfInBounds_toArray, List.set_cons_zero, List.set_cons_succ]
      refine wpAnyH_take (i := 18) (v := ?_) rfl (by kernel_rfl) (by kernel_rfl) (by kernel_rfl) (fun _ _ _ h => h) (Or.inl ⟨by rfl, ?_⟩) (by assumption) ?_
      rotate_left
      · (intro w hSw; (try dsimp only at hSw); go_simp; try with_reducible rfl)
      try simp only [List.getElem_toArray, List.getElem_cons_succ, List.getElem_cons_zero, Act.put, List.setIfInBounds_toArray, List.set_cons_zero, List.set_cons_succ]
      refine wpAnyH_take (i := 19) (v := ?_) rfl (by kernel_rfl) (by kernel_rfl) (by kernel_rfl) (fun _ _ _ h => h) (Or.inl ⟨by rfl, ?_⟩) (by assumption) ?_
      rotate_left
      · (intro w hSw; (try dsimp only at hSw); go_simp; try with_reducible rfl)
      try simp only [List.getElem_toArray, List.getElem_cons_succ, List.getElem_cons_zero, Act.put, List.setIfInBounds_toArray, List.set_cons_zero, List.set_cons_succ]
      refine wpAnyH_take (i := 20) (v := ?_) rfl (by kernel_rfl) (by kernel_rfl) (by kernel_rfl) (fun _ _ _ h => h) (Or.inl ⟨by rfl, ?_⟩) (by assumption) ?_
      rotate_left
      · (intro w hSw; (try dsimp only at hSw); go_simp; try with_reducible rfl)
      try simp only [List.getElem_toArray, List.getElem_cons_succ, List.getElem_cons_zero, Act.put, List.setIfInBounds_toArray, List.set_cons_zero, List.set_cons_succ]
      refine wpAnyH_take (i := 21) (v := ?_) rfl (by kernel_rfl) (by kernel_rfl) (by kernel_rfl) (fun _ _ _ h => h) (Or.inl ⟨by rfl, ?_⟩) (by assumption) ?_
      rotate_left
      · (intro w hSw; (try dsimp only at hSw); go_simp; try with_reducible rfl)
      try simp only [List.getElem_toArray, List.getElem_cons_succ, List.getElem_cons_zero, Act.put, List.setIfInBounds_toArray, List.set_cons_zero, List.set_cons_succ]
      refine wpAnyH_take (i := 22) (v := ?_) rfl (by kernel_rfl) (by kernel_rfl) (by kernel_rfl) (fun _ _ _ h => h) (Or.inl ⟨by rfl, ?_⟩) (by assumption) ?_
      rotate_left
      · (intro w hSw; (try dsimp only at hSw); go_simp; try with_reducible rfl)
      try simp only [List.getElem_toArray, List.getElem_cons_succ, List.getElem_cons_zero, Act.put, List.setIfInBounds_toArray, List.set_cons_zero, List.set_cons_succ]
      refine wpAnyH_done (by kernel_rfl) ?_ _
      clear hHeld KEEP
      have HB13 := Lib.hid (HB12.out.trans (HG0.out.mono HB12.out.size))
      go_wp2_with fail
      refine (awake_any _).mono ?_
      rintro e wz ⟨rfl, hb⟩
      have HBZ := Lib.hid (HB13.out.trans (hb.mono HB13.out.size))
      clear hb
      go_wp2_with fail
      go_ret
      exact ⟨rfl, HBZ.out⟩
    have hm0 := hlast (by have := HBN.out; omega)
    have hblI : ¬ (b : Int) < (l.length : Int) := by omega
    have HBEQ : Hid ((b : Int) = (l.length : Int)) := Lib.hid (by have := HBN.out; omega)
    subst hm0
    clear hlast hbl
    refine wp_region_held_drew (S := fun w' => w'.cell? ⟨w.heap.size + 1, 0, none⟩ = some (.string (bstr c.key)) ∧ w'.cell? ⟨(ad8.add (b * 9)).block, (ad8.add (b * 9)).off + 1, none⟩ = some (.string (bstr c.key)) ∧ w'.cell? ⟨(ad8.add (b * 9)).block, (ad8.add (b * 9)).off + 6, none⟩ = some (.int .i64 at_)) (by kernel_rfl) (KEEP.out _ (Below.drew (Below.refl _ _))) (fun hHeld => ?_)
    obtain ⟨wq, hwq⟩ : ∃ wq, wq = World.drew w12 := ⟨_, rfl⟩
    have HG0 : Hid (Below w12.heap.size w12 wq) := Lib.hid (by rw [hwq]; exact Below.drew (Below.refl _ _))
    rw [← hwq] at hHeld ⊢
    clear hwq
    refine wpAnyH_take (i := 0) (v := ?_) rfl (by kernel_rfl) (by kernel_rfl) (by kernel_rfl) (fun _ _ _ h => h) (Or.inl ⟨by rfl, ?_⟩) (by assumption) ?_
    rotate_left
    · (intro w hSw; (try dsimp only at hSw); go_simp; try with_reducible rfl)
    try simp only [List.getElem_toArray, List.getElem_cons_succ, List.getElem_cons_zero, Act.put, List.setIfInBounds_toArray, List.set_cons_zero, List.set_cons_succ]
    refine wpAnyH_take (i := 1) (v := ?_) rfl (by kernel_rfl) (by kernel_rfl) (by kernel_rfl) (fun _ _ _ h => h) (Or.inl ⟨by rfl, ?_⟩) (by assumption) ?_
    rotate_left
    · (intro w hSw; (try dsimp only at hSw); go_simp; try with_reducible rfl)
    try simp only [List.getElem_toArray, List.getElem_cons_succ, List.getElem_cons_zero, Act.put, List.setIfInBounds_toArray, List.set_cons_zero, List.set_cons_succ]
    refine wpAnyH_take (i := 2) (v := ?_) rfl (by kernel_rfl) (by kernel_rfl) (by kernel_rfl) (fun _ _ _ h => h) (Or.inl ⟨by rfl, ?_⟩) (by assumption) ?_
    rotate_left
    · (intro w hSw; (try dsimp only at hSw); go_simp; try with_reducible rfl)
    try simp only [List.getElem_toArray, List.getElem_cons_succ, List.getElem_cons_zero, Act.put, List.setIfInBounds_toArray, List.set_cons_zero, List.set_cons_succ]
    refine wpAnyH_take (i := 3) (v := ?_) rfl (by kernel_rfl) (by kernel_rfl) (by kernel_rfl) (fun _ _ _ h => h) (Or.inl ⟨by rfl, ?_⟩) (by assumption) ?_
    rotate_left
    · (intro w hSw; (try dsimp only at hSw); go_simp; try with_reducible rfl)
    try simp only [List.getElem_toArray, List.getElem_cons_succ, List.getElem_cons_zero, Act.put, List.setIfInBounds_toArray, List.set_cons_zero, List.set_cons_succ]
    refine wpAnyH_take (i := 4) (v := ?_) rfl (by kernel_rfl) (by kernel_rfl) (by kernel_rfl) (fun _ _ _ h => h) (Or.inl ⟨by rfl, ?_⟩) (by assumption) ?_
    rotate_left
    · (intro w hSw; (try dsimp only at hSw); go_simp; try with_reducible rfl)
    try simp only [List.getElem_toArray, List.getElem_cons_succ, List.getElem_cons_zero, Act.put, List.setIfInBounds_toArray, List.set_cons_zero, List.set_cons_succ]
    refine wpAnyH_take (i := 5) (v := ?_) rfl (by kernel_rfl) (by kernel_rfl) (by kernel_rfl) (fun _ _ _ h => h) (Or.inl ⟨by rfl, ?_⟩) (by assumption) ?_
    rotate_left
    · (intro w hSw; (try dsimp only at hSw); go_simp; try with_reducible rfl)
    try simp only [List.getElem_toArray, List.getElem_cons_succ, List.getElem_cons_zero, Act.put, List.setIfInBounds_toArray, List.set_cons_zero, List.set_cons_succ]
    refine wpAnyH_take (i := 6) (v := ?_) rfl (by kernel_rfl) (by kernel_rfl) (by kernel_rfl) (fun _ _ _ h => h) (Or.inl ⟨by rfl, ?_⟩) (by assumption) ?_
    rotate_left
    · (intro w hSw; (try dsimp only at hSw); go_simp; try with_reducible rfl)
    try simp only [List.getElem_toArray, List.getElem_cons_succ, List.getElem_cons_zero, Act.put, List.setIfInBounds_toArray, List.set_cons_zero, List.set_cons_succ]
    refine wpAnyH_take (i := 7) (v := ?_) rfl (by kernel_rfl) (by kernel_rfl) (by kernel_rfl) (fun _ _ _ h => h) (Or.inl ⟨by rfl, ?_⟩) (by assumption) ?_
    rotate_left
    · (intro w hSw; (try dsimp only at hSw); go_simp; try with_reducible rfl)
    try simp only [List.getElem_toArray, List.getElem_cons_succ, List.getElem_cons_zero, Act.put, List.setIfInBounds_toArray, List.set_cons_zero, List.set_cons_succ]
    refine wpAnyH_take (i := 8) (v := ?_) rfl (by kernel_rfl) (by kernel_rfl) (by kernel_rfl) (fun _ _ _ h => h) (Or.inl ⟨by rfl, ?_⟩) (by assumption) ?_
    rotate_left
    · (intro w hSw; (try dsimp only at hSw); go_simp; try with_reducible rfl)
    try simp only [List.getElem_toArray, List.getElem_cons_succ, List.getElem_cons_zero, Act.put, List.setIfInBounds_toArray, List.set_cons_zero, List.set_cons_succ]
    refine wpAnyH_take (i := 9) (v := ?_) rfl (by kernel_rfl) (by kernel_rfl) (by kernel_rfl) (fun _ _ _ h => h) (Or.inl ⟨by rfl, ?_⟩) (by assumption) ?_
    rotate_left
    · (intro w hSw; (try dsimp only at hSw); go_simp; try with_reducible rfl)
    try simp only [List.getElem_toArray, List.getElem_cons_succ, List.getElem_cons_zero, Act.put, List.setIfInBounds_toArray, List.set_cons_zero, List.set_cons_succ]
    refine wpAnyH_take (i := 10) (v := ?_) rfl (by kernel_rfl) (by kernel_rfl) (by kernel_rfl) (fun _ _ _ h => h) (Or.inl ⟨by rfl, ?_⟩) (by assumption) ?_
    rotate_left
    · (intro w hSw; (try dsimp only at hSw); go_simp; try with_reducible rfl)
    try simp only [List.getElem_toArray, List.getElem_cons_succ, List.getElem_cons_zero, Act.put, List.setIfInBounds_toArray, List.set_cons_zero, List.set_cons_succ]
    refine wpAnyH_take (i := 11) (v := ?_) rfl (by kernel_rfl) (by kernel_rfl) (by kernel_rfl) (fun _ _ _ h => h) (Or.inl ⟨by rfl, ?_⟩) (by assumption) ?_
    rotate_left
    · (intro w hSw; (try dsimp only at hSw); go_simp; try with_reducible rfl)
    try simp only [List.getElem_toArray, List.getElem_cons_succ, List.getElem_cons_zero, Act.put, List.setIfInBounds_toArray, List.set_cons_zero, List.set_cons_succ]
    refine wpAnyH_take (i := 12) (v := ?_) rfl (by kernel_rfl) (by kernel_rfl) (by kernel_rfl) (fun _ _ _ h => h) (Or.inl ⟨by rfl, ?_⟩) (by assumption) ?_
    rotate_left
    · (intro w hSw; (try dsimp only at hSw); go_simp; try with_reducible rfl)
    try simp only [List.getElem_toArray, List.getElem_cons_succ, List.getElem_cons_zero, Act.put, List.setIfInBounds_toArray, List.set_cons_zero, List.set_cons_succ]
    refine wpAnyH_take (i := 13) (v := ?_) rfl (by kernel_rfl) (by kernel_rfl) (by kernel_rfl) (fun _ _ _ h => h) (Or.inl ⟨by rfl, ?_⟩) (by assumption) ?_
    rotate_left
    · (intro w hSw; (try dsimp only at hSw); go_simp; try with_reducible rfl)
    try simp only [List.getElem_toArray, List.getElem_cons_succ, List.getElem_cons_zero, Act.put, List.setIfInBounds_toArray, List.set_cons_zero, List.set_cons_succ]
    refine wpAnyH_take (i := 14) (v := ?_) rfl (by kernel_rfl) (by kernel_rfl) (by kernel_rfl) (fun _ _ _ h => h) (Or.inl ⟨by rfl, ?_⟩) (by assumption) ?_
    rotate_left
    · (intro w hSw; (try dsimp only at hSw); go_simp; try with_reducible rfl)
    try simp only [List.getElem_toArray, List.getElem_cons_succ, List.getElem_cons_zero, Act.put, List.setIfInBounds_toArray, List.set_cons_zero, List.set_cons_succ]
    refine wpAnyH_take (i := 15) (v := ?_) rfl (by kernel_rfl) (by kernel_rfl) (by kernel_rfl) (fun _ _ _ h => h) (Or.inl ⟨by rfl, ?_⟩) (by assumption) ?_
    rotate_left
    · (intro w hSw; (try dsimp only at hSw); go_simp; try with_reducible rfl)
    try simp only [List.getElem_toArray, List.getElem_cons_succ, List.getElem_cons_zero, Act.put, List.setIfInBounds_toArray, List.set_cons_zero, List.set_cons_succ]
    refine wpAnyH_take (i := 16) (v := ?_) rfl (by kernel_rfl) (by kernel_rfl) (by kernel_rfl) (fun _ _ _ h => h) (Or.inl ⟨by rfl, ?_⟩) (by assumption) ?_
    rotate_left
    · (intro w hSw; (try dsimp only at hSw); go_simp; try with_reducible rfl)
    try simp only [List.getElem_toArray, List.getElem_cons_succ, List.getElem_cons_zero, Act.put, List.setIfInBounds_toArray, List.set_cons_zero, List.set_cons_succ]
    refine wpAnyH_take (i := 17) (v := ?_) rfl (by kernel_rfl) (by kernel_rfl) (by kernel_rfl) (fun _ _ _ h => h) (Or.inl ⟨by rfl, ?_⟩) (by assumption) ?_
    rotate_left
    · (intro w hSw; (try dsimp only at hSw); go_simp; try with_reducible rfl)
    try simp only [List.getElem_toArray, List.getElem_cons_succ, List.getElem_cons_zero, Act.put, List.setIfInBounds_toArray, List.set_cons_zero, List.set_cons_succ]
    refine wpAnyH_take (i := 18) (v := ?_) rfl (by kernel_rfl) (by kernel_rfl) (by kernel_rfl) (fun _ _ _ h => h) (Or.inl ⟨by rfl, ?_⟩) (by assumption) ?_
    rotate_left
    · (intro w hSw; (try dsimp only at hSw); go_simp; try with_reducible rfl)
    try simp only [List.getElem_toArray, List.getElem_cons_succ, List.getElem_cons_zero, Act.put, List.setIfInBounds_toArray, List.set_cons_zero, List.set_cons_succ]
    refine wpAnyH_take (i := 19) (v := ?_) rfl (by kernel_rfl) (by kernel_rfl) (by kernel_rfl) (fun _ _ _ h => h) (Or.inl ⟨by rfl, ?_⟩) (by assumption) ?_
    rotate_left
    · (intro w hSw; (try dsimp only at hSw); go_simp; try with_reducible rfl)
    try simp only [List.getElem_toArray, List.getElem_cons_succ, List.getElem_cons_zero, Act.put, List.setIfInBounds_toArray, List.set_cons_zero, List.set_cons_succ]
    refine wpAnyH_take (i := 20) (v := ?_) rfl (by kernel_rfl) (by kernel_rfl) (by kernel_rfl) (fun _ _ _ h => h) (Or.inl ⟨by rfl, ?_⟩) (by assumption) ?_
    rotate_left
    · (intro w hSw; (try dsimp only at hSw); go_simp; try with_reducible rfl)
    try simp only [List.getElem_toArray, List.getElem_cons_succ, List.getElem_cons_zero, Act.put, List.setIfInBounds_toArray, List.set_cons_zero, List.set_cons_succ]
    refine wpAnyH_take (i := 21) (v := ?_) rfl (by kernel_rfl) (by kernel_rfl) (by kernel_rfl) (fun _ _ _ h => h) (Or.inl ⟨by rfl, ?_⟩) (by assumption) ?_
    rotate_left
    · (intro w hSw; (try dsimp only at hSw); go_simp; try with_reducible rfl)
    try simp only [List.getElem_toArray, List.getElem_cons_succ, List.getElem_cons_zero, Act.put, List.setIfInBounds_toArray, List.set_cons_zero, List.set_cons_succ]
    refine wpAnyH_take (i := 22) (v := ?_) rfl (by kernel_rfl) (by kernel_rfl) (by kernel_rfl) (fun _ _ _ h => h) (Or.inl ⟨by rfl, ?_⟩) (by assumption) ?_
    rotate_left
    · (intro w hSw; (try dsimp only at hSw); go_simp; try with_reducible rfl)
    try simp only [List.getElem_toArray, List.getElem_cons_succ, List.getElem_cons_zero, Act.put, List.setIfInBounds_toArray, List.set_cons_zero, List.set_cons_succ]
    refine wpAnyH_done (by kernel_rfl) ?_ _
    clear hHeld KEEP
    have HB13 := Lib.hid (HB12.out.trans (HG0.out.mono HB12.out.size))
    have hbeq : ((b : Int) == (l.length : Int)) = true := by rw [HBEQ.out]; exact beq_self_eq_true _
    go_wp2_with fail
    refine (awake_any _).mono ?_
    rintro e wz ⟨rfl, hb⟩
    have HBZ := Lib.hid (HB13.out.trans (hb.mono HB13.out.size))
    clear hb
    go_wp2_with fail
    go_ret
    exact ⟨rfl, HBZ.out⟩
end Go.Proofs.YtmlhpemgpndppaaDoor
