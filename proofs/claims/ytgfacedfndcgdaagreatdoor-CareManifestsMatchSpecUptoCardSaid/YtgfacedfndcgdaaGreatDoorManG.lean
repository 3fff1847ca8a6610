/-
  ReadManifest of the reference of chapter 11.
-/
import Derived.Test.YtgfacedfndcgdaaGreatDoorManF
import Derived.Test.YtgfacedfndcgdaaGreatDoorRefPack
import Derived.Deep.RegionHeld
namespace Go.Proofs.YtgfacedfndcgdaaGreatDoor
open Go.RowKit
set_option linter.unusedVariables false
set_option linter.unusedSimpArgs false

theorem lineF_len {first : Bool} {pre : List UInt8} {st st' : RS} {s : List UInt8} (h : lineF first pre st s = some st') (hs : s.length ≤ 400000) (hn : st.nm.length ≤ 400000) (hp : ∀ x ∈ st.ents, x.path.length ≤ 400000) : st'.nm.length ≤ 400000 ∧ st'.ents.length ≤ st.ents.length + 1 ∧ ∀ x ∈ st'.ents, x.path.length ≤ 400000 := by
  have hle := sg_len_le _ s (Nat.le_refl _)
  unfold lineF at h
  split at h
  · cases h
  split at h
  · split at h
    · rename_i a b e
      rw [e] at hle
      have := hle b (by simp)
      split at h
      · injection h with h; subst h; exact ⟨by show b.length ≤ _; omega, Nat.le_succ _, hp⟩
      · cases h
    · cases h
  · split at h
    · split at h
      · injection h with h; subst h; exact ⟨hn, Nat.le_succ _, hp⟩
      · cases h
    · unfold entL at h
      split at h
      · rename_i a b c e
        rw [e] at hle
        have := hle c (by simp)
        split at h
        · injection h with h; subst h
          refine ⟨hn, by simp, fun x hx => ?_⟩
          rcases List.mem_append.1 hx with h | h
          · exact hp x h
          · rw [List.mem_singleton.1 h]; show c.length ≤ _; omega
        · cases h
      · cases h
def strLen (v : Value) : Nat := match v with | .string b => b.size | _ => 0
set_option maxRecDepth 100000 in
set_option maxHeartbeats 16000000 in
theorem refReadManifest_any (text : List UInt8) (w : World) (hG : GInt w) : Calls Tryz.prog 10 #[.string (bstr text)] w (RmPost text w) := by
  have HG := Lib.hid hG
  have hsz : (bstr text).size = text.length := rfl
  have HR0 := Lib.hid (Blk.new w 24 [.string ⟨#[]⟩, .slice none 0 0])
  have HB0 := Lib.hid ((Below.refl w.heap.size w).alloc (Nat.le_refl _) (.cells #[.string ⟨#[]⟩, .slice none 0 0] 24))
  clear hG
  by_cases hl : 400000 < text.length
  · have hl' : (400000 : Int) < (text.length : Int) := by omega
    have HRM := Lib.hid (rm_large hl)
    have k0 := HR0.out.cell 0
    have k1 := HR0.out.cell 1
    have z0 := HR0.out.frozen 0
    have z1 := HR0.out.frozen 1
    simp only [List.getElem?_cons_zero, List.getElem?_cons_succ] at k0 k1
    go_enter Tryz.func10, Tryz.ntmps10
    go_wp2_with fail
    refine bodyPost_ret (results_row3 rfl _ _ w.heap.size 24 [.string ⟨#[]⟩, .slice none 0 0] _ rfl HR0.out Tryz.underlying24 rfl pack_info) rfl ?_
    exact RmPost.none_ HRM.out HB0.out
  have hl' : ¬ (400000 : Int) < (text.length : Int) := by omega
  have HL := Lib.hid hl
  have hlt : text.length ≤ 400000 := by omega
  have hs1 : (w.alloc (.cells #[.string ⟨#[]⟩, .slice none 0 0] 24)).heap.size = w.heap.size + 1 := World.size_alloc _ _
  have HS0 : Hid (RrSt w st0 (.slice none 0 0) ((w.alloc (.cells #[.string ⟨#[]⟩, .slice none 0 0] 24)).alloc (.cells #[.string ⟨#[]⟩, .slice none 0 0, .string ⟨#[]⟩] 49))) := Lib.hid {
    res := HR0.out.alloc_o _
    rd := by
      have := Blk.new (w.alloc (.cells #[.string ⟨#[]⟩, .slice none 0 0] 24)) 49 [.string ⟨#[]⟩, .slice none 0 0, .string ⟨#[]⟩]
      rw [hs1] at this
      exact this
    row := World.ownsRow_nil _ _ _ _
    below := HB0.out.alloc (by rw [hs1]; omega) _
    le := by simp
    sz := fun x hx => absurd hx (by simp [st0]) }
  clear hl HR0 HB0 hs1
  go_enter Tryz.func10, Tryz.ntmps10
  go_wp2_with fail
  generalize (w.alloc (.cells #[.string ⟨#[]⟩, .slice none 0 0] 24)).alloc (.cells #[.string ⟨#[]⟩, .slice none 0 0, .string ⟨#[]⟩] 49) = w0 at *
  go_loopw [6, 7] (fun vi vr wr => ∃ (pre : List UInt8) (st : RS) (rest : List UInt8) (i : Nat) (vE : Value), vi = .int .i64 i ∧ vr = .string (bstr rest) ∧ Hid (At text i pre st rest) ∧ Hid (RrSt w st vE wr) ∧ st.nm.length ≤ 400000 ∧ st.ents.length ≤ pre.length ∧ Hid (∀ x ∈ st.ents, x.path.length ≤ 400000)) (fun _ vr _ => strLen vr)
  case atStart => exact ⟨[], st0, text, 1, .slice none 0 0, rfl, rfl, Lib.hid (At.start text), HS0, Nat.zero_le _, Nat.zero_le _, Lib.hid (fun x hx => absurd hx (by simp [st0]))⟩
  case round =>
    clear HS0
    obtain ⟨pre, st, rest, i, vE, rfl, rfl, HAT, HST, hnl, hel, HPL⟩ := hrel
    have hlen : text.length = pre.length + rest.length := by rw [HAT.out.1, List.length_append]
    have hil : i ≤ pre.length + 1 := HAT.out.2.2.2.1
    have hi1 : 1 ≤ i := HAT.out.2.2.2.2
    have r2 := HST.out.rd.cell 2
    simp only [List.getElem?_cons_zero, List.getElem?_cons_succ] at r2
    by_cases hr : rest = []
    · subst hr
      have HRD := Lib.hid HAT.out.done
      have hem0 : (bstr ([] : List UInt8)).toList.isEmpty = true := by rw [bstr_toList]; rfl
      have hpl : pre.length ≤ 400000 := by omega
      have HTX : Hid (text = pre) := Lib.hid (by have := HAT.out.1; rwa [List.append_nil] at this)
      clear hlen hil hi1
      have HOK := Lib.hid HST.out.ok
      by_cases hs : st.sl = []
      · have hem : (bstr st.sl).toList.isEmpty = true := by rw [bstr_toList, hs]; rfl
        have HS := Lib.hid hs
        clear hs
        have HBK := Lib.hid ((HOK.out.res.set_ 0 (.string ⟨#[]⟩)).set_ 1 (.slice none 0 0))
        have HPP : Hid (RmPost text w (.returned (.tuple #[.agg #[.string ⟨#[]⟩, .slice none 0 0], .int .i64 ((i : Int)), .int .i64 (10)])) ((wr.setCell ⟨w.heap.size, 0, none⟩ (.string ⟨#[]⟩)).setCell ⟨w.heap.size, 1, none⟩ (.slice none 0 0))) := Lib.hid (RmPost.none_ (rm_open HL.out HRD.out HS.out) ((HOK.out.below.setCell (p := ⟨w.heap.size, 0, none⟩) (Nat.le_refl _) (.string ⟨#[]⟩)).setCell (p := ⟨w.heap.size, 1, none⟩) (Nat.le_refl _) (.slice none 0 0)))
        have k0 := HOK.out.res.cell 0
        have k1 := HOK.out.res.cell 1
        have z0 := HOK.out.res.frozen 0
        have z1 := HOK.out.res.frozen 1
        simp only [List.getElem?_cons_zero, List.getElem?_cons_succ] at k0 k1
        go_wp2_with fail
        refine bodyPost_ret (results_row3 rfl _ _ w.heap.size 24 [.string ⟨#[]⟩, .slice none 0 0] _ rfl HBK.out Tryz.underlying24 rfl pack_info) rfl ?_
        exact HPP.out
      have hem : (bstr st.sl).toList.isEmpty = false := by
        rw [bstr_toList]
        cases h : st.sl with
        | nil => exact absurd h hs
        | cons _ _ => rfl
      have HS := Lib.hid hs
      obtain ⟨htx, hpre⟩ := HAT.out.2.2.1 hs
      have hte : text = st.pre ++ kSeal ++ [32] ++ st.sl ++ [10] := HTX.out.trans hpre
      have hpl2 : st.pre.length ≤ text.length := by rw [hte]; simp only [List.length_append]; omega
      have HLI : Hid (∀ wq : World, Calls Tryz.prog 24 #[.string (bstr text), .string ⟨#[115, 101, 97, 108, 32]⟩] wq fun e w' => e = .returned (.int .i64 ((st.pre.length : Nat) : Int)) ∧ w' = wq) := Lib.hid (fun wq => by
        have h := lastIx_any text (kSeal ++ [32]) wq (by omega)
        rw [show Lib.lastIndex text (kSeal ++ [32]) = ((st.pre.length : Nat) : Int) from by rw [hte]; exact last_seal htx] at h
        exact h)
      have HE2 : Hid ((bstr text).extract 0 st.pre.length = bstr st.pre) := Lib.hid (by rw [extract_head, hte]; congr 1; simp [List.append_assoc])
      have KEEP : Hid (∀ w', Below wr.heap.size wr w' → w'.cell? ⟨w.heap.size + 1, 2, none⟩ = some (.string (bstr st.sl))) := Lib.hid (fun w' hb => (hb.cell (p := ⟨w.heap.size + 1, 2, none⟩) HST.out.rd.lt).trans r2)
      have hp0 : (0 : Int) ≤ ((st.pre.length : Nat) : Int) := by omega
      have hp1 : ((st.pre.length : Nat) : Int) ≤ (text.length : Int) := by omega
      have hp4 : st.pre.length ≤ 400000 := by omega
      clear htx hpre hte hs hpl2
      by_cases hg : digL st.pre = st.sl
      case neg =>
        have HD := Lib.hid hg
        have hb1 : ((bstr st.sl).toList == (bstr (digL st.pre)).toList) = false := str_bne (fun e => hg (bstr_inj e).symm)
        clear hg
        go_wp2_with fail
        refine wp_region_held_drew (S := fun w' => w'.cell? ⟨w.heap.size + 1, 2, none⟩ = some (.string (bstr st.sl))) (by kernel_rfl) (KEEP.out _ (Below.drew (Below.refl _ _))) (fun hHeld => ?_)
        obtain ⟨wq, hwq⟩ : ∃ wq, wq = World.drew wr := ⟨_, rfl⟩
        have HGq : Hid (Below wr.heap.size wr wq) := Lib.hid (by rw [hwq]; exact Below.drew (Below.refl _ _))
        rw [← hwq] at hHeld ⊢
        clear hwq
        refine wpAnyH_take (i := 0) (v := ?_) rfl (by kernel_rfl) (by kernel_rfl) (by kernel_rfl) (fun _ _ _ h => h) (Or.inl ⟨by rfl, ?_⟩) (by assumption) ?_
        rotate_left
        · (intro w hSw; (try dsimp only at hSw); go_simp; try with_reducible rfl)
        try simp only [List.getElem_toArray, List.getElem_cons_succ, List.getElem_cons_zero, Act.put, List.setIfInBounds_toArray, List.set_cons_zero, List.set_cons_succ]
        refine wpAnyH_take (i := 1) (v := ?_) rfl (by kernel_rfl) (by kernel_rfl) (by kernel_rfl) (fun _ _ _ h => h) (Or.inl ⟨by rfl, ?_⟩) (by assumption) ?_
        rotate_left
        · (intro w hSw; (try dsimp only at hSw); go_simp; try with_reducible rfl)
        try simp only [List.getElem_toArray, List.getElem_cons_succ, List.getElem_cons_zero, Act.put, List.setIfInBounds_toArray, List.set_cons_zero, List.set_cons_succ]
        refine wpAnyH_take (i := 2) (v := ?_) rfl (by kernel_rfl) (by kernel_rfl) (by kernel_rfl) (fun _ _ _ h => h) (Or.inl ⟨by rfl, ?_⟩) (by assumption) ?_
        rotate_left
        · (intro w hSw; (try dsimp only at hSw); go_simp; try with_reducible rfl)
        try simp only [List.getElem_toArray, List.getElem_cons_succ, List.getElem_cons_zero, Act.put, List.setIfInBounds_toArray, List.set_cons_zero, List.set_cons_succ]
        refine wpAnyH_take (i := 3) (v := ?_) rfl (by kernel_rfl) (by kernel_rfl) (by kernel_rfl) (fun _ _ _ h => h) (Or.inl ⟨by rfl, ?_⟩) (by assumption) ?_
        rotate_left
        · (intro w hSw; (try dsimp only at hSw); go_simp; try with_reducible rfl)
        try simp only [List.getElem_toArray, List.getElem_cons_succ, List.getElem_cons_zero, Act.put, List.setIfInBounds_toArray, List.set_cons_zero, List.set_cons_succ]
        refine wpAnyH_ready (rs := [4]) (by kernel_rfl) (by simp) ?_
        refine AllReadyH.cons rfl (fun K hK => ?_) AllReadyH.nil
        rw [if_pos (by rfl)]
        simp only [List.getElem_toArray, List.getElem_cons_succ, List.getElem_cons_zero]
        go_simp
        go_at_call 24
        refine (HLI.out wq).mono ?_
        rintro e w5 ⟨rfl, hw5⟩
        subst hw5
        show K _ w5
        refine hK.out _ _ (KEEP.out _ HGq.out) (fun hHeld => ?_)
        clear hK K
        try simp only [List.getElem_toArray, List.getElem_cons_succ, List.getElem_cons_zero, Act.put, List.setIfInBounds_toArray, List.set_cons_zero, List.set_cons_succ]
        refine wpAnyH_take (i := 5) (v := ?_) rfl (by kernel_rfl) (by kernel_rfl) (by kernel_rfl) (fun _ _ _ h => h) (Or.inl ⟨by rfl, ?_⟩) (by assumption) ?_
        rotate_left
        · (intro w hSw; (try dsimp only at hSw); go_simp; try with_reducible rfl)
        try simp only [List.getElem_toArray, List.getElem_cons_succ, List.getElem_cons_zero, Act.put, List.setIfInBounds_toArray, List.set_cons_zero, List.set_cons_succ]
        refine wpAnyH_ready (rs := [6]) (by kernel_rfl) (by simp) ?_
        refine AllReadyH.cons rfl (fun K hK => ?_) AllReadyH.nil
        rw [if_pos (by rfl)]
        simp only [List.getElem_toArray, List.getElem_cons_succ, List.getElem_cons_zero]
        go_simp
        go_at_call 16
        rw [HE2.out]
        refine (rdigest_any st.pre w5 (by omega)).mono ?_
        rintro e w6 ⟨rfl, hw⟩
        have HG6 : Hid (Below wr.heap.size wr w6) := Lib.hid (HGq.out.trans (hw.mono HGq.out.size))
        clear hw
        show K _ w6
        refine hK.out _ _ (KEEP.out _ HG6.out) (fun hHeld => ?_)
        clear hK K
        try simp only [List.getElem_toArray, List.getElem_cons_succ, List.getElem_cons_zero, Act.put, List.setIfInBounds_toArray, List.set_cons_zero, List.set_cons_succ]
        refine wpAnyH_take (i := 7) (v := ?_) rfl (by kernel_rfl) (by kernel_rfl) (by kernel_rfl) (fun _ _ _ h => h) (Or.inl ⟨by rfl, ?_⟩) (by assumption) ?_
        rotate_left
        · (intro w hSw; (try dsimp only at hSw); go_simp; try with_reducible rfl)
        try simp only [List.getElem_toArray, List.getElem_cons_succ, List.getElem_cons_zero, Act.put, List.setIfInBounds_toArray, List.set_cons_zero, List.set_cons_succ]
        refine wpAnyH_done (by kernel_rfl) ?_ _
        clear hHeld KEEP HGq
        have HST6 := Lib.hid (HST.out.call HG6.out)
        have HOK6 := Lib.hid HST6.out.ok
        have HBK := Lib.hid ((HOK6.out.res.set_ 0 (.string ⟨#[]⟩)).set_ 1 (.slice none 0 0))
        have HPP : Hid (RmPost text w (.returned (.tuple #[.agg #[.string ⟨#[]⟩, .slice none 0 0], .int .i64 (((0 : Nat) : Int)), .int .i64 (15)])) ((w6.setCell ⟨w.heap.size, 0, none⟩ (.string ⟨#[]⟩)).setCell ⟨w.heap.size, 1, none⟩ (.slice none 0 0))) := Lib.hid (RmPost.none_ (rm_dam HL.out HRD.out HS.out HD.out) ((HOK6.out.below.setCell (p := ⟨w.heap.size, 0, none⟩) (Nat.le_refl _) (.string ⟨#[]⟩)).setCell (p := ⟨w.heap.size, 1, none⟩) (Nat.le_refl _) (.slice none 0 0)))
        have k0 := HOK6.out.res.cell 0
        have k1 := HOK6.out.res.cell 1
        have z0 := HOK6.out.res.frozen 0
        have z1 := HOK6.out.res.frozen 1
        simp only [List.getElem?_cons_zero, List.getElem?_cons_succ] at k0 k1
        go_wp2_with fail
        refine bodyPost_ret (results_row3 rfl _ _ w.heap.size 24 [.string ⟨#[]⟩, .slice none 0 0] _ rfl HBK.out Tryz.underlying24 rfl pack_info) rfl ?_
        exact HPP.out
      have HD := Lib.hid hg
      have hb1 : ((bstr st.sl).toList == (bstr (digL st.pre)).toList) = true := str_beq (by rw [hg])
      clear hg
      go_wp2_with fail
      refine wp_region_held_drew (S := fun w' => w'.cell? ⟨w.heap.size + 1, 2, none⟩ = some (.string (bstr st.sl))) (by kernel_rfl) (KEEP.out _ (Below.drew (Below.refl _ _))) (fun hHeld => ?_)
      obtain ⟨wq, hwq⟩ : ∃ wq, wq = World.drew wr := ⟨_, rfl⟩
      have HGq : Hid (Below wr.heap.size wr wq) := Lib.hid (by rw [hwq]; exact Below.drew (Below.refl _ _))
      rw [← hwq] at hHeld ⊢
      clear hwq
      refine wpAnyH_take (i := 0) (v := ?_) rfl (by kernel_rfl) (by kernel_rfl) (by kernel_rfl) (fun _ _ _ h => h) (Or.inl ⟨by rfl, ?_⟩) (by assumption) ?_
      rotate_left
      · (intro w hSw; (try dsimp only at hSw); go_simp; try with_reducible rfl)
      try simp only [List.getElem_toArray, List.getElem_cons_succ, List.getElem_cons_zero, Act.put, List.setIfInBounds_toArray, List.set_cons_zero, List.set_cons_succ]
      refine wpAnyH_take (i := 1) (v := ?_) rfl (by kernel_rfl) (by kernel_rfl) (by kernel_rfl) (fun _ _ _ h => h) (Or.inl ⟨by rfl, ?_⟩) (by assumption) ?_
      rotate_left
      · (intro w hSw; (try dsimp only at hSw); go_simp; try with_reducible rfl)
      try simp only [List.getElem_toArray, List.getElem_cons_succ, List.getElem_cons_zero, Act.put, List.setIfInBounds_toArray, List.set_cons_zero, List.set_cons_succ]
      refine wpAnyH_take (i := 2) (v := ?_) rfl (by kernel_rfl) (by kernel_rfl) (by kernel_rfl) (fun _ _ _ h => h) (Or.inl ⟨by rfl, ?_⟩) (by assumption) ?_
      rotate_left
      · (intro w hSw; (try dsimp only at hSw); go_simp; try with_reducible rfl)
      try simp only [List.getElem_toArray, List.getElem_cons_succ, List.getElem_cons_zero, Act.put, List.setIfInBounds_toArray, List.set_cons_zero, List.set_cons_succ]
      refine wpAnyH_take (i := 3) (v := ?_) rfl (by kernel_rfl) (by kernel_rfl) (by kernel_rfl) (fun _ _ _ h => h) (Or.inl ⟨by rfl, ?_⟩) (by assumption) ?_
      rotate_left
      · (intro w hSw; (try dsimp only at hSw); go_simp; try with_reducible rfl)
      try simp only [List.getElem_toArray, List.getElem_cons_succ, List.getElem_cons_zero, Act.put, List.setIfInBounds_toArray, List.set_cons_zero, List.set_cons_succ]
      refine wpAnyH_ready (rs := [4]) (by kernel_rfl) (by simp) ?_
      refine AllReadyH.cons rfl (fun K hK => ?_) AllReadyH.nil
      rw [if_pos (by rfl)]
      simp only [List.getElem_toArray, List.getElem_cons_succ, List.getElem_cons_zero]
      go_simp
      go_at_call 24
      refine (HLI.out wq).mono ?_
      rintro e w5 ⟨rfl, hw5⟩
      subst hw5
      show K _ w5
      refine hK.out _ _ (KEEP.out _ HGq.out) (fun hHeld => ?_)
      clear hK K
      try simp only [List.getElem_toArray, List.getElem_cons_succ, List.getElem_cons_zero, Act.put, List.setIfInBounds_toArray, List.set_cons_zero, List.set_cons_succ]
      refine wpAnyH_take (i := 5) (v := ?_) rfl (by kernel_rfl) (by kernel_rfl) (by kernel_rfl) (fun _ _ _ h => h) (Or.inl ⟨by rfl, ?_⟩) (by assumption) ?_
      rotate_left
      · (intro w hSw; (try dsimp only at hSw); go_simp; try with_reducible rfl)
      try simp only [List.getElem_toArray, List.getElem_cons_succ, List.getElem_cons_zero, Act.put, List.setIfInBounds_toArray, List.set_cons_zero, List.set_cons_succ]
      refine wpAnyH_ready (rs := [6]) (by kernel_rfl) (by simp) ?_
      refine AllReadyH.cons rfl (fun K hK => ?_) AllReadyH.nil
      rw [if_pos (by rfl)]
      simp only [List.getElem_toArray, List.getElem_cons_succ, List.getElem_cons_zero]
      go_simp
      go_at_call 16
      rw [HE2.out]
      refine (rdigest_any st.pre w5 (by omega)).mono ?_
      rintro e w6 ⟨rfl, hw⟩
      have HG6 : Hid (Below wr.heap.size wr w6) := Lib.hid (HGq.out.trans (hw.mono HGq.out.size))
      clear hw
      show K _ w6
      refine hK.out _ _ (KEEP.out _ HG6.out) (fun hHeld => ?_)
      clear hK K
      try simp only [List.getElem_toArray, List.getElem_cons_succ, List.getElem_cons_zero, Act.put, List.setIfInBounds_toArray, List.set_cons_zero, List.set_cons_succ]
      refine wpAnyH_take (i := 7) (v := ?_) rfl (by kernel_rfl) (by kernel_rfl) (by kernel_rfl) (fun _ _ _ h => h) (Or.inl ⟨by rfl, ?_⟩) (by assumption) ?_
      rotate_left
      · (intro w hSw; (try dsimp only at hSw); go_simp; try with_reducible rfl)
      try simp only [List.getElem_toArray, List.getElem_cons_succ, List.getElem_cons_zero, Act.put, List.setIfInBounds_toArray, List.set_cons_zero, List.set_cons_succ]
      refine wpAnyH_done (by kernel_rfl) ?_ _
      clear hHeld KEEP HGq
      have HST6 := Lib.hid (HST.out.call HG6.out)
      have HCP := Lib.hid (refCheckPackage_any st.nm vE st.ents w6 (ents_read HST6.out.row HST6.out.sz) (HG.out.ext HST6.out.below) (fun f hf => by have := HPL.out f hf; omega) (by omega))
      have p0 := HST6.out.rd.cell 0
      have p1 := HST6.out.rd.cell 1
      simp only [List.getElem?_cons_zero, List.getElem?_cons_succ] at p0 p1
      clear HST HOK r2
      go_wp2_with fail
      refine HCP.out.mono ?_
      rintro e w7 ⟨rfl, hb7⟩
      have HST7 := Lib.hid (HST6.out.call hb7)
      have HOK7 := Lib.hid HST7.out.ok
      clear HCP hb7 p0 p1 HST6 HG6
      by_cases hp : packFault st.nm st.ents = 0
      case neg =>
        have HPK := Lib.hid hp
        have hn : (packFault st.nm st.ents != 0) = true := by simpa using hp
        clear hp
        have HRP := Lib.hid (rm_pk HL.out HRD.out HS.out HD.out HPK.out)
        generalize packFault st.nm st.ents = pf at *
        have HBK := Lib.hid ((HOK7.out.res.set_ 0 (.string ⟨#[]⟩)).set_ 1 (.slice none 0 0))
        have HPP : Hid (RmPost text w (.returned (.tuple #[.agg #[.string ⟨#[]⟩, .slice none 0 0], .int .i64 (((0 : Nat) : Int)), .int .i64 (pf)])) ((w7.setCell ⟨w.heap.size, 0, none⟩ (.string ⟨#[]⟩)).setCell ⟨w.heap.size, 1, none⟩ (.slice none 0 0))) := Lib.hid (RmPost.none_ (HRP.out) ((HOK7.out.below.setCell (p := ⟨w.heap.size, 0, none⟩) (Nat.le_refl _) (.string ⟨#[]⟩)).setCell (p := ⟨w.heap.size, 1, none⟩) (Nat.le_refl _) (.slice none 0 0)))
        have k0 := HOK7.out.res.cell 0
        have k1 := HOK7.out.res.cell 1
        have z0 := HOK7.out.res.frozen 0
        have z1 := HOK7.out.res.frozen 1
        simp only [List.getElem?_cons_zero, List.getElem?_cons_succ] at k0 k1
        go_wp2_with fail
        refine bodyPost_ret (results_row3 rfl _ _ w.heap.size 24 [.string ⟨#[]⟩, .slice none 0 0] _ rfl HBK.out Tryz.underlying24 rfl pack_info) rfl ?_
        exact HPP.out
      have HRP := Lib.hid (rm_ok HL.out HRD.out HS.out HD.out hp)
      rw [hp]
      clear hp
      have HBK := Lib.hid ((HST7.out.res.set_ 0 (.string (bstr st.nm))).set_ 1 vE)
      have HPP : Hid (RmPost text w (.returned (.tuple #[.agg #[.string (bstr st.nm), vE], .int .i64 0, .int .i64 0])) ((w7.setCell ⟨w.heap.size, 0, none⟩ (.string (bstr st.nm))).setCell ⟨w.heap.size, 1, none⟩ vE)) := Lib.hid (by
        have hO := (HST7.out.row.kept (set_grown3 w7 w.heap.size 0 (.string (bstr st.nm))) (by
          cases hv : vE.ownBlock with
          | none => exact .inl rfl
          | some g => exact .inr (fun e => by injection e with e; have := (HST7.out.row.lt g hv).1; omega)))
        have hO2 := (hO.kept (set_grown3 _ w.heap.size 1 vE) (by
          cases hv : vE.ownBlock with
          | none => exact .inl rfl
          | some g => exact .inr (fun e => by injection e with e; have := (HST7.out.row.lt g hv).1; omega)))
        exact RmPost.some_ HRP.out hO2 HST7.out.sz ((HST7.out.below.setCell (p := ⟨w.heap.size, 0, none⟩) (Nat.le_refl _) _).setCell (p := ⟨w.heap.size, 1, none⟩) (Nat.le_refl _) _))
      have k0 := HST7.out.res.cell 0
      have k1 := HST7.out.res.cell 1
      have z0 := HST7.out.res.frozen 0
      have z1 := HST7.out.res.frozen 1
      have p0 := HST7.out.rd.cell 0
      have p1 := HST7.out.rd.cell 1
      simp only [List.getElem?_cons_zero, List.getElem?_cons_succ] at k0 k1 p0 p1
      obtain ⟨AE, cE, hvE, _⟩ := own_form HST7.out.row
      subst hvE
      go_wp2_with fail
      refine bodyPost_ret (results_row3 rfl _ _ w.heap.size 24 [.string (bstr st.nm), .slice AE st.ents.length cE] _ rfl HBK.out Tryz.underlying24 rfl pack_info) rfl ?_
      exact HPP.out
    have hem0 : (bstr rest).toList.isEmpty = false := by
      rw [bstr_toList]
      cases h : rest with
      | nil => exact absurd h hr
      | cons _ _ => rfl
    have hrl : 0 < rest.length := List.length_pos_iff.2 hr
    have hrs : rest.length ≤ 400000 := by omega
    have hel4 : st.ents.length ≤ 400000 := by omega
    obtain ⟨f, hf1, hf2⟩ : ∃ f, ((i : Int) == 1) = f ∧ decide (i = 1) = f := ⟨_, rfl, by
      by_cases h : i = 1
      · subst h; rfl
      · exact (decide_eq_false h).trans (beq_eq_false_iff_ne.2 (fun e => h (by omega))).symm⟩
    have hw3 : IntKind.i64.wrap ((i : Int) + 1) = ((i + 1 : Nat) : Int) := by rw [IntWalk.i64_in _ (by omega)]; omega
    have HF2 := Lib.hid hf2
    have HLN := Lib.hid hlen
    have HGR := Lib.hid (HG.out.ext HST.out.below)
    clear hf2 hlen r2
    rcases sp_cases 10 rest with hc | ⟨s, r, rfl, hc⟩
    · have HRD := Lib.hid (HAT.out.cut hr hc)
      have hcut := cut_any rest wr HGR.out (by omega)
      rw [cut_none hc] at hcut
      have HCU := Lib.hid hcut
      clear hcut hc hr
      go_wp2_with fail
      refine HCU.out.mono ?_
      rintro e w1 ⟨rfl, n, hw1⟩
      have HST1 := Lib.hid (HST.out.call (w' := w1) (by rw [hw1]; exact below_drewN (Below.refl _ _) n))
      have HLN2 := Lib.hid (line_any w st vE f pre rest w1 HG.out HST1.out hrs hel4)
      clear hw1 HCU HST
      go_wp2_with fail
      refine HLN2.out.mono ?_
      rintro e w2 ⟨ok, rfl, hok, _, _⟩
      have HOK2 := Lib.hid hok
      clear HLN2 hok HST1
      cases ok with
      | false =>
        have HBK := Lib.hid ((HOK2.out.res.set_ 0 (.string ⟨#[]⟩)).set_ 1 (.slice none 0 0))
        have HPP : Hid (RmPost text w (.returned (.tuple #[.agg #[.string ⟨#[]⟩, .slice none 0 0], .int .i64 ((i : Int)), .int .i64 (10)])) ((w2.setCell ⟨w.heap.size, 0, none⟩ (.string ⟨#[]⟩)).setCell ⟨w.heap.size, 1, none⟩ (.slice none 0 0))) := Lib.hid (RmPost.none_ (rm_syn HL.out HRD.out) ((HOK2.out.below.setCell (p := ⟨w.heap.size, 0, none⟩) (Nat.le_refl _) (.string ⟨#[]⟩)).setCell (p := ⟨w.heap.size, 1, none⟩) (Nat.le_refl _) (.slice none 0 0)))
        have k0 := HOK2.out.res.cell 0
        have k1 := HOK2.out.res.cell 1
        have z0 := HOK2.out.res.frozen 0
        have z1 := HOK2.out.res.frozen 1
        simp only [List.getElem?_cons_zero, List.getElem?_cons_succ] at k0 k1
        go_wp2_with fail
        refine bodyPost_ret (results_row3 rfl _ _ w.heap.size 24 [.string ⟨#[]⟩, .slice none 0 0] _ rfl HBK.out Tryz.underlying24 rfl pack_info) rfl ?_
        exact HPP.out
      | true =>
        have HBK := Lib.hid ((HOK2.out.res.set_ 0 (.string ⟨#[]⟩)).set_ 1 (.slice none 0 0))
        have HPP : Hid (RmPost text w (.returned (.tuple #[.agg #[.string ⟨#[]⟩, .slice none 0 0], .int .i64 ((i : Int)), .int .i64 (10)])) ((w2.setCell ⟨w.heap.size, 0, none⟩ (.string ⟨#[]⟩)).setCell ⟨w.heap.size, 1, none⟩ (.slice none 0 0))) := Lib.hid (RmPost.none_ (rm_syn HL.out HRD.out) ((HOK2.out.below.setCell (p := ⟨w.heap.size, 0, none⟩) (Nat.le_refl _) (.string ⟨#[]⟩)).setCell (p := ⟨w.heap.size, 1, none⟩) (Nat.le_refl _) (.slice none 0 0)))
        have k0 := HOK2.out.res.cell 0
        have k1 := HOK2.out.res.cell 1
        have z0 := HOK2.out.res.frozen 0
        have z1 := HOK2.out.res.frozen 1
        simp only [List.getElem?_cons_zero, List.getElem?_cons_succ] at k0 k1
        go_wp2_with fail
        refine bodyPost_ret (results_row3 rfl _ _ w.heap.size 24 [.string ⟨#[]⟩, .slice none 0 0] _ rfl HBK.out Tryz.underlying24 rfl pack_info) rfl ?_
        exact HPP.out
    have hsl : s.length ≤ 400000 := by simp at hrs; omega
    have hcut := cut_any (s ++ 10 :: r) wr HGR.out (by omega)
    rw [cut_at hc] at hcut
    have HCU := Lib.hid hcut
    have HC := Lib.hid hc
    clear hcut hc hr
    go_wp2_with fail
    refine HCU.out.mono ?_
    rintro e w1 ⟨rfl, n, hw1⟩
    have HST1 := Lib.hid (HST.out.call (w' := w1) (by rw [hw1]; exact below_drewN (Below.refl _ _) n))
    have HLN2 := Lib.hid (line_any w st vE f pre s w1 HG.out HST1.out hsl hel4)
    clear hw1 HCU HST
    go_wp2_with fail
    refine HLN2.out.mono ?_
    rintro e w2 ⟨ok, rfl, hok, hyes, hno⟩
    have HOK2 := Lib.hid hok
    clear HLN2 hok HST1
    cases ok with
    | false =>
      have hn := hno rfl
      have HRD := Lib.hid (HAT.out.bad HC.out (by rw [HF2.out]; exact hn))
      clear hyes hno hn
      have HBK := Lib.hid ((HOK2.out.res.set_ 0 (.string ⟨#[]⟩)).set_ 1 (.slice none 0 0))
      have HPP : Hid (RmPost text w (.returned (.tuple #[.agg #[.string ⟨#[]⟩, .slice none 0 0], .int .i64 ((i : Int)), .int .i64 (10)])) ((w2.setCell ⟨w.heap.size, 0, none⟩ (.string ⟨#[]⟩)).setCell ⟨w.heap.size, 1, none⟩ (.slice none 0 0))) := Lib.hid (RmPost.none_ (rm_syn HL.out HRD.out) ((HOK2.out.below.setCell (p := ⟨w.heap.size, 0, none⟩) (Nat.le_refl _) (.string ⟨#[]⟩)).setCell (p := ⟨w.heap.size, 1, none⟩) (Nat.le_refl _) (.slice none 0 0)))
      have k0 := HOK2.out.res.cell 0
      have k1 := HOK2.out.res.cell 1
      have z0 := HOK2.out.res.frozen 0
      have z1 := HOK2.out.res.frozen 1
      simp only [List.getElem?_cons_zero, List.getElem?_cons_succ] at k0 k1
      go_wp2_with fail
      refine bodyPost_ret (results_row3 rfl _ _ w.heap.size 24 [.string ⟨#[]⟩, .slice none 0 0] _ rfl HBK.out Tryz.underlying24 rfl pack_info) rfl ?_
      exact HPP.out
    | true =>
      obtain ⟨st', vE', hy, hst'⟩ := hyes rfl
      have HST2 := Lib.hid hst'
      have HAT2 := Lib.hid (HAT.out.next HC.out (by rw [HF2.out]; exact hy))
      obtain ⟨q1, q2, q3⟩ := lineF_len hy hsl hnl HPL.out
      have HQ3 := Lib.hid q3
      clear hyes hno hy hst' q3
      go_wp2_with fail
      go_roundw
      case rel => exact ⟨pre ++ s ++ [10], st', r, i + 1, vE', by first | rfl | go_num, rfl, HAT2, HST2, q1, by simp; omega, HQ3⟩
      case measure => show (bstr r).size < (bstr (s ++ 10 :: r)).size; rw [bstr_size, bstr_size]; simp; omega
end Go.Proofs.YtgfacedfndcgdaaGreatDoor
