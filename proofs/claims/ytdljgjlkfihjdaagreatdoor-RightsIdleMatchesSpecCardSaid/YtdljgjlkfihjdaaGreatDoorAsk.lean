/-
  What is asked of rights: 'RightOf' and 'MaySee' of package rights and of the reference of chapter 10.
-/
import Derived.Test.YtdljgjlkfihjdaaGreatDoorMay2
namespace Go.Proofs.YtdljgjlkfihjdaaGreatDoor
open Go.RowKit
set_option linter.unusedVariables false
set_option linter.unusedSimpArgs false

set_option maxRecDepth 100000 in
set_option maxHeartbeats 2000000 in
theorem checkAsked_any (vt : Value) (t : List Team) (v : Value) (l : List Rgt) (who : List UInt8) (house : Bool) (c : Cap) (w : World) (ht : (Rp.sl teamRp).ok w (· < w.heap.size) [vt] t) (h0 : (Rp.sl rgtRp).ok w (· < w.heap.size) [v] l) (hck : c.key.length ≤ 9223372036854775807) (hwl : who.length ≤ 9223372036854775807) :
    Calls Tryz.prog 16 #[vt, v, .agg #[.string (bstr who), .bool house], .agg #[.string (bstr c.key), .int .i64 c.time]] w fun e w' => e = .returned (.int .i64 (askF t l who c)) ∧ Below w.heap.size w w' := by
  have HT := Lib.hid ht
  have H0 := Lib.hid h0
  clear ht h0
  have hl0 := (Below.refl w.heap.size _).alloc (Nat.le_refl _) (.cells #[.string (bstr who), .bool house] 46)
  have hl1 := (Below.refl (w.alloc (.cells #[.string (bstr who), .bool house] 46)).heap.size _).alloc (Nat.le_refl _) (.cells #[.string (bstr c.key), .int .i64 c.time] 25)
  have HBA : Hid (Below w.heap.size w ((w.alloc (.cells #[.string (bstr who), .bool house] 46)).alloc (.cells #[.string (bstr c.key), .int .i64 c.time] 25))) := Lib.hid ((hl0).trans (hl1.mono (by simp <;> omega)))
  have hk0 : Blk ((w.alloc (.cells #[.string (bstr who), .bool house] 46)).alloc (.cells #[.string (bstr c.key), .int .i64 c.time] 25)) (w.heap.size) 46 [.string (bstr who), .bool house] := by
    have h := (Blk.new w 46 [.string (bstr who), .bool house]).same (same_below hl1) (by simp <;> omega)
    simpa only [World.size_alloc] using h
  have HKVA := Lib.hid hk0
  have hk1 : Blk ((w.alloc (.cells #[.string (bstr who), .bool house] 46)).alloc (.cells #[.string (bstr c.key), .int .i64 c.time] 25)) (w.heap.size + 1) 25 [.string (bstr c.key), .int .i64 c.time] := by
    have h := Blk.new (w.alloc (.cells #[.string (bstr who), .bool house] 46)) 25 [.string (bstr c.key), .int .i64 c.time]
    simpa only [World.size_alloc] using h
  have HKCA := Lib.hid hk1
  clear hl0 hk0 hl1 hk1
  go_enter Tryz.func16, Tryz.ntmps16
  go_wp2_with fail
  generalize ((w.alloc (.cells #[.string (bstr who), .bool house] 46)).alloc (.cells #[.string (bstr c.key), .int .i64 c.time] 25)) = wA at *
  refine (checkRights_any vt t v l wA (Rp.ext _ HT.out HBA.out) (Rp.ext _ H0.out HBA.out)).mono ?_
  rintro e w3 ⟨rfl, hb⟩
  have HB3 := Lib.hid (HBA.out.trans (hb.mono HBA.out.size))
  have HKV3 := Lib.hid (HKVA.out.same (same_below hb) HKVA.out.lt)
  have HKC3 := Lib.hid (HKCA.out.same (same_below hb) HKCA.out.lt)
  clear hb HBA HKVA HKCA
  by_cases hf : rightsFault t l = 0
  case neg =>
    have HF : Hid (askF t l who c = rightsFault t l) := Lib.hid (if_pos hf)
    have hn : (rightsFault t l != 0) = true := by simpa using hf
    clear hf
    generalize rightsFault t l = f at *
    go_wp2_with fail
    go_ret
    exact ⟨by rw [HF.out]; rfl, HB3.out⟩
  have HR : Hid (askF t l who c = if who ≠ [] ∧ isNm who = false then 5 else capF c) := Lib.hid (if_neg (by rw [hf]; decide))
  rw [hf]
  clear hf
  have v0 : w3.cell? ⟨w.heap.size, 0, none⟩ = some (.string (bstr who)) := HKV3.out.cell 0
  have v1 : w3.cell? ⟨w.heap.size, 1, none⟩ = some (.bool house) := HKV3.out.cell 1
  have c0 : w3.cell? ⟨w.heap.size + 1, 0, none⟩ = some (.string (bstr c.key)) := HKC3.out.cell 0
  have c1 : w3.cell? ⟨w.heap.size + 1, 1, none⟩ = some (.int .i64 c.time) := HKC3.out.cell 1
  by_cases hwe : who = []
  · have he : (bstr who).toList.isEmpty = true := by rw [hwe, bstr_toList]; rfl
    have HF : Hid (askF t l who c = capF c) := Lib.hid (HR.out.trans (if_neg (fun e => e.1 hwe)))
    clear hwe HR
    go_wp2_with fail
    refine (capture_any c _ hck).mono ?_
    rintro e w5 ⟨rfl, hb⟩
    have HB5 := Lib.hid (HB3.out.trans (hb.mono HB3.out.size))
    clear hb HB3 
    generalize capF c = f at *
    go_wp2_with fail
    go_ret
    exact ⟨by rw [HF.out]; rfl, HB5.out⟩
  have he : (bstr who).toList.isEmpty = false := by
    rw [bstr_toList]; cases hq : who with | nil => exact absurd hq hwe | cons _ _ => rfl
  go_wp2_with fail
  refine (isName_any who _ hwl).mono ?_
  rintro e w4 ⟨rfl, hb⟩
  have HB4 := Lib.hid (HB3.out.trans (hb.mono HB3.out.size))
  have HKC4 := Lib.hid (HKC3.out.same (same_below hb) HKC3.out.lt)
  clear hb HB3 HKC3
  cases hq : isNm who with
  | false =>
    have HF : Hid (askF t l who c = 5) := Lib.hid (HR.out.trans (if_pos ⟨hwe, hq⟩))
    clear hq hwe HR
    go_wp2_with fail
    go_ret
    exact ⟨by rw [HF.out]; rfl, HB4.out⟩
  | true =>
    have HF : Hid (askF t l who c = capF c) := Lib.hid (HR.out.trans (if_neg (fun e => by rw [hq] at e; exact absurd e.2 (by decide))))
    clear hq hwe HR c0 c1
    have c0 : w4.cell? ⟨w.heap.size + 1, 0, none⟩ = some (.string (bstr c.key)) := HKC4.out.cell 0
    have c1 : w4.cell? ⟨w.heap.size + 1, 1, none⟩ = some (.int .i64 c.time) := HKC4.out.cell 1
    go_wp2_with fail
    refine (capture_any c _ hck).mono ?_
    rintro e w5 ⟨rfl, hb⟩
    have HB5 := Lib.hid (HB4.out.trans (hb.mono HB4.out.size))
    clear hb HB4 
    generalize capF c = f at *
    go_wp2_with fail
    go_ret
    exact ⟨by rw [HF.out]; rfl, HB5.out⟩
theorem checkAskedN_any (vt : Value) (t : List Team) (v : Value) (l : List Rgt) (c : Cap) (w : World) (ht : (Rp.sl teamRp).ok w (· < w.heap.size) [vt] t) (h0 : (Rp.sl rgtRp).ok w (· < w.heap.size) [v] l) (hck : c.key.length ≤ 9223372036854775807) :
    Calls Tryz.prog 16 #[vt, v, .agg #[.string ⟨#[]⟩, .bool false], .agg #[.string (bstr c.key), .int .i64 c.time]] w fun e w' => e = .returned (.int .i64 (askF t l [] c)) ∧ Below w.heap.size w w' :=
  checkAsked_any vt t v l [] false c w ht h0 hck (by simp)
set_option maxRecDepth 100000 in
set_option maxHeartbeats 2000000 in
theorem rightTop_any (vt : Value) (t : List Team) (v : Value) (l : List Rgt) (c : Cap) (at_ : Int) (w : World) (ht : (Rp.sl teamRp).ok w (· < w.heap.size) [vt] t) (h0 : (Rp.sl rgtRp).ok w (· < w.heap.size) [v] l) (hck : c.key.length ≤ 9223372036854775807) :
    Calls Tryz.prog 8 #[vt, v, .agg #[.string (bstr c.key), .int .i64 c.time], .int .i64 at_] w fun e w' => e = .returned (.tuple #[.int .i64 (rightTop t l c at_).1, .bool (rightTop t l c at_).2.1, .int .i64 (rightTop t l c at_).2.2]) ∧ Below w.heap.size w w' := by
  have HT := Lib.hid ht
  have H0 := Lib.hid h0
  clear ht h0
  have hl0 := (Below.refl w.heap.size _).alloc (Nat.le_refl _) (.cells #[.string (bstr c.key), .int .i64 c.time] 25)
  have HBA : Hid (Below w.heap.size w (w.alloc (.cells #[.string (bstr c.key), .int .i64 c.time] 25))) := Lib.hid (hl0)
  have hk0 : Blk (w.alloc (.cells #[.string (bstr c.key), .int .i64 c.time] 25)) (w.heap.size) 25 [.string (bstr c.key), .int .i64 c.time] := by
    have h := Blk.new w 25 [.string (bstr c.key), .int .i64 c.time]
    simpa only [World.size_alloc] using h
  have HKCA := Lib.hid hk0
  clear hl0 hk0
  go_enter Tryz.func8, Tryz.ntmps8
  have c0 : (w.alloc (.cells #[.string (bstr c.key), .int .i64 c.time] 25)).cell? ⟨w.heap.size, 0, none⟩ = some (.string (bstr c.key)) := HKCA.out.cell 0
  have c1 : (w.alloc (.cells #[.string (bstr c.key), .int .i64 c.time] 25)).cell? ⟨w.heap.size, 1, none⟩ = some (.int .i64 c.time) := HKCA.out.cell 1
  go_wp2_with fail
  clear c0 c1
  generalize (w.alloc (.cells #[.string (bstr c.key), .int .i64 c.time] 25)) = wA at *
  refine (checkAskedN_any vt t v l c wA (Rp.ext _ HT.out HBA.out) (Rp.ext _ H0.out HBA.out) hck).mono ?_
  rintro e w3 ⟨rfl, hb⟩
  have HB3 := Lib.hid (HBA.out.trans (hb.mono HBA.out.size))
  have HKC3 := Lib.hid (HKCA.out.same (same_below hb) HKCA.out.lt)
  clear hb HBA HKCA
  by_cases hf : askF t l [] c = 0
  case neg =>
    have HF : Hid (rightTop t l c at_ = (0, false, askF t l [] c)) := Lib.hid (if_pos hf)
    have hn : (askF t l [] c != 0) = true := by simpa using hf
    clear hf
    generalize askF t l [] c = f at *
    go_wp2_with fail
    go_ret3
    exact ⟨by rw [HF.out]; rfl, HB3.out⟩
  obtain ⟨htf, hTG, hRG⟩ := ask_good hf
  have HRG := Lib.hid hRG
  have hm := hRG.len
  clear hTG hRG
  have HR : Hid (rightTop t l c at_ = if withinB at_ 0 253402300799 = false then (0, false, 1) else (max (rightIx l c at_) 0, decide (0 ≤ rightIx l c at_), 0)) := Lib.hid (if_neg (by rw [hf]; decide))
  rw [hf]
  clear hf htf
  go_wp2_with fail
  refine (moment_any at_ _).mono ?_
  rintro e w7 ⟨rfl, rfl⟩
  cases hq : withinB at_ 0 253402300799 with
  | false =>
    have HF : Hid (rightTop t l c at_ = (0, false, 1)) := Lib.hid (HR.out.trans (if_pos hq))
    clear hq HR
    go_wp2_with fail
    go_ret3
    exact ⟨by rw [HF.out]; rfl, HB3.out⟩
  | true =>
    have HR3 := Lib.hid (HR.out.trans (if_neg (by rw [hq]; decide)))
    clear hq HR
    have c0 : w7.cell? ⟨w.heap.size, 0, none⟩ = some (.string (bstr c.key)) := HKC3.out.cell 0
    have c1 : w7.cell? ⟨w.heap.size, 1, none⟩ = some (.int .i64 c.time) := HKC3.out.cell 1
    go_wp2_with fail
    refine (rightOf_any v l c at_ w7 (Rp.ext _ H0.out HB3.out) (by omega) hck).mono ?_
    rintro e w9 ⟨rfl, hb⟩
    have HB9 := Lib.hid (HB3.out.trans (hb.mono HB3.out.size))
    clear hb HB3 
    have HTP : Hid (rightTop t l c at_ = (max (rightIx l c at_) 0, decide (0 ≤ rightIx l c at_), 0)) := Lib.hid (HR3.out)
    generalize rightIx l c at_ = R at *
    by_cases hR : 0 ≤ R
    · have HF : Hid (rightTop t l c at_ = (R, true, 0)) := Lib.hid (by rw [HTP.out, decide_eq_true hR, Int.max_eq_left hR])
      clear HTP HR3
      have hm1 : max R 0 = R := Int.max_eq_left hR
      go_wp2_with fail
      go_ret3
      exact ⟨by rw [HF.out]; rfl, HB9.out⟩
    have HF : Hid (rightTop t l c at_ = (0, decide (0 ≤ R), 0)) := Lib.hid (by rw [HTP.out, Int.max_eq_right (by omega)])
    clear HTP HR3
    have hm1 : max R 0 = 0 := Int.max_eq_right (by omega)
    go_wp2_with fail
    go_ret3
    exact ⟨by rw [HF.out]; rfl, HB9.out⟩
set_option maxRecDepth 100000 in
set_option maxHeartbeats 4000000 in
theorem mayTop_any (vt : Value) (t : List Team) (v : Value) (l : List Rgt) (who : List UInt8) (house : Bool) (c : Cap) (at_ : Int) (w : World) (ht : (Rp.sl teamRp).ok w (· < w.heap.size) [vt] t) (h0 : (Rp.sl rgtRp).ok w (· < w.heap.size) [v] l) (hck : c.key.length ≤ 9223372036854775807) (hwl : who.length ≤ 9223372036854775807) :
    Calls Tryz.prog 15 #[vt, v, .agg #[.string (bstr who), .bool house], .agg #[.string (bstr c.key), .int .i64 c.time], .int .i64 at_] w fun e w' => e = .returned (.tuple #[.bool (mayTop t l who house c at_).1, .int .i64 (mayTop t l who house c at_).2]) ∧ Below w.heap.size w w' := by
  have HT := Lib.hid ht
  have H0 := Lib.hid h0
  clear ht h0
  have hl0 := (Below.refl w.heap.size _).alloc (Nat.le_refl _) (.cells #[.string (bstr who), .bool house] 46)
  have hl1 := (Below.refl (w.alloc (.cells #[.string (bstr who), .bool house] 46)).heap.size _).alloc (Nat.le_refl _) (.cells #[.string (bstr c.key), .int .i64 c.time] 25)
  have HBA : Hid (Below w.heap.size w ((w.alloc (.cells #[.string (bstr who), .bool house] 46)).alloc (.cells #[.string (bstr c.key), .int .i64 c.time] 25))) := Lib.hid ((hl0).trans (hl1.mono (by simp <;> omega)))
  have hk0 : Blk ((w.alloc (.cells #[.string (bstr who), .bool house] 46)).alloc (.cells #[.string (bstr c.key), .int .i64 c.time] 25)) (w.heap.size) 46 [.string (bstr who), .bool house] := by
    have h := (Blk.new w 46 [.string (bstr who), .bool house]).same (same_below hl1) (by simp <;> omega)
    simpa only [World.size_alloc] using h
  have HKVA := Lib.hid hk0
  have hk1 : Blk ((w.alloc (.cells #[.string (bstr who), .bool house] 46)).alloc (.cells #[.string (bstr c.key), .int .i64 c.time] 25)) (w.heap.size + 1) 25 [.string (bstr c.key), .int .i64 c.time] := by
    have h := Blk.new (w.alloc (.cells #[.string (bstr who), .bool house] 46)) 25 [.string (bstr c.key), .int .i64 c.time]
    simpa only [World.size_alloc] using h
  have HKCA := Lib.hid hk1
  clear hl0 hk0 hl1 hk1
  go_enter Tryz.func15, Tryz.ntmps15
  have v0 : ((w.alloc (.cells #[.string (bstr who), .bool house] 46)).alloc (.cells #[.string (bstr c.key), .int .i64 c.time] 25)).cell? ⟨w.heap.size, 0, none⟩ = some (.string (bstr who)) := HKVA.out.cell 0
  have v1 : ((w.alloc (.cells #[.string (bstr who), .bool house] 46)).alloc (.cells #[.string (bstr c.key), .int .i64 c.time] 25)).cell? ⟨w.heap.size, 1, none⟩ = some (.bool house) := HKVA.out.cell 1
  have c0 : ((w.alloc (.cells #[.string (bstr who), .bool house] 46)).alloc (.cells #[.string (bstr c.key), .int .i64 c.time] 25)).cell? ⟨w.heap.size + 1, 0, none⟩ = some (.string (bstr c.key)) := HKCA.out.cell 0
  have c1 : ((w.alloc (.cells #[.string (bstr who), .bool house] 46)).alloc (.cells #[.string (bstr c.key), .int .i64 c.time] 25)).cell? ⟨w.heap.size + 1, 1, none⟩ = some (.int .i64 c.time) := HKCA.out.cell 1
  go_wp2_with fail
  clear v0 v1 c0 c1
  generalize ((w.alloc (.cells #[.string (bstr who), .bool house] 46)).alloc (.cells #[.string (bstr c.key), .int .i64 c.time] 25)) = wA at *
  refine (checkAsked_any vt t v l who house c wA (Rp.ext _ HT.out HBA.out) (Rp.ext _ H0.out HBA.out) hck hwl).mono ?_
  rintro e w3 ⟨rfl, hb⟩
  have HB3 := Lib.hid (HBA.out.trans (hb.mono HBA.out.size))
  have HKV3 := Lib.hid (HKVA.out.same (same_below hb) HKVA.out.lt)
  have HKC3 := Lib.hid (HKCA.out.same (same_below hb) HKCA.out.lt)
  clear hb HBA HKVA HKCA
  by_cases hf : askF t l who c = 0
  case neg =>
    have HF : Hid (mayTop t l who house c at_ = (false, askF t l who c)) := Lib.hid (if_pos hf)
    have hn : (askF t l who c != 0) = true := by simpa using hf
    clear hf
    generalize askF t l who c = f at *
    go_wp2_with fail
    go_ret2
    exact ⟨by rw [HF.out]; rfl, HB3.out⟩
  obtain ⟨htf, hTG, hRG⟩ := ask_good hf
  have HRG := Lib.hid hRG
  have HTG := Lib.hid hTG
  have HTF := Lib.hid htf
  have hm := hRG.len
  clear hTG hRG htf
  have HR : Hid (mayTop t l who house c at_ = if withinB at_ 0 253402300799 = false then (false, 1) else (mayB t l who house c at_, 0)) := Lib.hid (if_neg (by rw [hf]; decide))
  rw [hf]
  clear hf
  go_wp2_with fail
  refine (moment_any at_ _).mono ?_
  rintro e w7 ⟨rfl, rfl⟩
  cases hq : withinB at_ 0 253402300799 with
  | false =>
    have HF : Hid (mayTop t l who house c at_ = (false, 1)) := Lib.hid (HR.out.trans (if_pos hq))
    clear hq HR
    go_wp2_with fail
    go_ret2
    exact ⟨by rw [HF.out]; rfl, HB3.out⟩
  | true =>
    have HR3 : Hid (mayTop t l who house c at_ = (mayB t l who house c at_, 0)) := Lib.hid (HR.out.trans (if_neg (by rw [hq]; decide)))
    clear hq HR
    rw [← mayT_eq HTF.out HRG.out] at HR3
    have KEEP : Hid (∀ w', Below w7.heap.size w7 w' → (w'.cell? ⟨w.heap.size, 0, none⟩ = some (.string (bstr who)) ∧ w'.cell? ⟨w.heap.size, 1, none⟩ = some (.bool house) ∧ w'.cell? ⟨w.heap.size + 1, 0, none⟩ = some (.string (bstr c.key)) ∧ w'.cell? ⟨w.heap.size + 1, 1, none⟩ = some (.int .i64 c.time))) := Lib.hid (fun w' hg => by
      have h1 := HKV3.out.same (same_below hg) HKV3.out.lt
      have h2 := HKC3.out.same (same_below hg) HKC3.out.lt
      exact ⟨h1.cell 0, h1.cell 1, h2.cell 0, h2.cell 1⟩)
    have HEY : Hid (∀ W, Below w7.heap.size w7 W → Calls Tryz.prog 33 #[vt, .agg #[.string (bstr who), .bool house]] W (EyePost t who house W)) := Lib.hid (fun W hW => eyeOf_any vt t who house W (Rp.ext _ (Rp.ext _ HT.out HB3.out) hW) HTG.out)
    have HMA : Hid (∀ W A5 c5, Below w7.heap.size w7 W → namesRp.ok W (· < W.heap.size) [.slice A5 (eyeT t who t.length).length c5] (eyeT t who t.length) → Calls Tryz.prog 34 #[.agg #[.bool house, .slice A5 (eyeT t who t.length).length c5], v, .agg #[.string (bstr c.key), .int .i64 c.time], .int .i64 at_] W fun e w' => e = .returned (.bool (mayT l (eyeT t who t.length) house c at_)) ∧ Below W.heap.size W w') := Lib.hid (fun W A5 c5 hW hn => may_any _ _ house v l c at_ W hn (Rp.ext _ (Rp.ext _ H0.out HB3.out) hW) (by omega) hck)
    generalize mayT l (eyeT t who t.length) house c at_ = q at *
    go_wp2_with fail
    refine wp_region_held_drew (S := fun w' => w'.cell? ⟨w.heap.size, 0, none⟩ = some (.string (bstr who)) ∧ w'.cell? ⟨w.heap.size, 1, none⟩ = some (.bool house) ∧ w'.cell? ⟨w.heap.size + 1, 0, none⟩ = some (.string (bstr c.key)) ∧ w'.cell? ⟨w.heap.size + 1, 1, none⟩ = some (.int .i64 c.time)) (by kernel_rfl) (KEEP.out _ (Below.drew (Below.refl _ _))) (fun hHeld => ?_)
    obtain ⟨wq, hwq⟩ : ∃ wq, wq = World.drew w7 := ⟨_, rfl⟩
    have HG0 : Hid (Below w7.heap.size w7 wq) := Lib.hid (by rw [hwq]; exact Below.drew (Below.refl _ _))
    rw [← hwq] at hHeld ⊢
    clear hwq
    refine wpAnyH_take (i := 0) (v := ?_) rfl (by kernel_rfl) (by kernel_rfl) (by kernel_rfl) (fun _ _ _ h => h) (Or.inl ⟨by rfl, ?_⟩) (by assumption) ?_
    rotate_left
    · (intro w hSw; (try dsimp only at hSw); go_simp; try with_reducible rfl)
    try simp only [List.getElem_toArray, List.getElem_cons_succ, List.getElem_cons_zero, Act.put, List.setIfInBounds_toArray, List.set_cons_zero, List.set_cons_succ]
    refine wpAnyH_take (i := 1) (v := ?_) rfl (by kernel_rfl) (by kernel_rfl) (by kernel_rfl) (fun _ _ _ h => h) (Or.inl ⟨by rfl, ?_⟩) (by assumption) ?_
    rotate_left
    · (intro w hSw; (try dsimp only at hSw); go_simp; try with_reducible rfl)
    try simp only [List.getElem_toArray, List.getElem_cons_succ, List.getElem_cons_zero, Act.put, List.setIfInBounds_toArray, List.set_cons_zero, List.set_cons_succ]
    refine wpAnyH_take (i := 3) (v := ?_) rfl (by kernel_rfl) (by kernel_rfl) (by kernel_rfl) (fun _ _ _ h => h) (Or.inl ⟨by rfl, ?_⟩) (by assumption) ?_
    rotate_left
    · (intro w hSw; (try dsimp only at hSw); go_simp; try with_reducible rfl)
    try simp only [List.getElem_toArray, List.getElem_cons_succ, List.getElem_cons_zero, Act.put, List.setIfInBounds_toArray, List.set_cons_zero, List.set_cons_succ]
    refine wpAnyH_take (i := 4) (v := ?_) rfl (by kernel_rfl) (by kernel_rfl) (by kernel_rfl) (fun _ _ _ h => h) (Or.inl ⟨by rfl, ?_⟩) (by assumption) ?_
    rotate_left
    · (intro w hSw; (try dsimp only at hSw); go_simp; try with_reducible rfl)
    try simp only [List.getElem_toArray, List.getElem_cons_succ, List.getElem_cons_zero, Act.put, List.setIfInBounds_toArray, List.set_cons_zero, List.set_cons_succ]
    refine wpAnyH_take (i := 5) (v := ?_) rfl (by kernel_rfl) (by kernel_rfl) (by kernel_rfl) (fun _ _ _ h => h) (Or.inl ⟨by rfl, ?_⟩) (by assumption) ?_
    rotate_left
    · (intro w hSw; (try dsimp only at hSw); go_simp; try with_reducible rfl)
    try simp only [List.getElem_toArray, List.getElem_cons_succ, List.getElem_cons_zero, Act.put, List.setIfInBounds_toArray, List.set_cons_zero, List.set_cons_succ]
    refine wpAnyH_ready (rs := [2]) (by kernel_rfl) (by simp) ?_
    refine AllReadyH.cons rfl (fun K hK => ?_) AllReadyH.nil
    rw [if_pos (by rfl)]
    simp only [List.getElem_toArray, List.getElem_cons_succ, List.getElem_cons_zero]
    go_simp
    go_at_call 33
    refine (HEY.out _ HG0.out).mono ?_
    rintro e w8 ⟨A5, c5, rfl, hnn, hw⟩
    have HG8 : Hid (Below w7.heap.size w7 w8) := Lib.hid (HG0.out.trans (hw.mono HG0.out.size))
    clear hw
    show K _ w8
    refine hK.out _ _ (KEEP.out _ HG8.out) (fun hHeld => ?_)
    clear hK K
    try simp only [List.getElem_toArray, List.getElem_cons_succ, List.getElem_cons_zero, Act.put, List.setIfInBounds_toArray, List.set_cons_zero, List.set_cons_succ]
    have HNN := Lib.hid hnn
    clear hnn
    refine wpAnyH_ready (rs := [6]) (by kernel_rfl) (by simp) ?_
    refine AllReadyH.cons rfl (fun K hK => ?_) AllReadyH.nil
    rw [if_pos (by rfl)]
    simp only [List.getElem_toArray, List.getElem_cons_succ, List.getElem_cons_zero]
    go_simp
    go_at_call 34
    refine (HMA.out _ _ _ HG8.out HNN.out).mono ?_
    rintro e w9 ⟨rfl, hw⟩
    have HG9 : Hid (Below w7.heap.size w7 w9) := Lib.hid (HG8.out.trans (hw.mono HG8.out.size))
    clear hw
    show K _ w9
    refine hK.out _ _ (KEEP.out _ HG9.out) (fun hHeld => ?_)
    clear hK K
    try simp only [List.getElem_toArray, List.getElem_cons_succ, List.getElem_cons_zero, Act.put, List.setIfInBounds_toArray, List.set_cons_zero, List.set_cons_succ]
    refine wpAnyH_take (i := 7) (v := ?_) rfl (by kernel_rfl) (by kernel_rfl) (by kernel_rfl) (fun _ _ _ h => h) (Or.inl ⟨by rfl, ?_⟩) (by assumption) ?_
    rotate_left
    · (intro w hSw; (try dsimp only at hSw); go_simp; try with_reducible rfl)
    try simp only [List.getElem_toArray, List.getElem_cons_succ, List.getElem_cons_zero, Act.put, List.setIfInBounds_toArray, List.set_cons_zero, List.set_cons_succ]
    refine wpAnyH_take (i := 8) (v := ?_) rfl (by kernel_rfl) (by kernel_rfl) (by kernel_rfl) (fun _ _ _ h => h) (Or.inl ⟨by rfl, ?_⟩) (by assumption) ?_
    rotate_left
    · (intro w hSw; (try dsimp only at hSw); go_simp; try with_reducible rfl)
    try simp only [List.getElem_toArray, List.getElem_cons_succ, List.getElem_cons_zero, Act.put, List.setIfInBounds_toArray, List.set_cons_zero, List.set_cons_succ]
    refine wpAnyH_done (by kernel_rfl) ?_ _
    clear hHeld KEEP
    have HB9 := Lib.hid (HB3.out.trans (HG9.out.mono HB3.out.size))
    go_wp2_with fail
    go_ret2
    exact ⟨by rw [HR3.out]; rfl, HB9.out⟩
end Go.Proofs.YtdljgjlkfihjdaaGreatDoor
