/-
  Who may see: 'eyeOf' and 'may' of package rights, 'maySee' of the reference of chapter 10.
-/
import Derived.Test.YtdljgjlkfihjdaaGreatDoorRightOf
namespace Go.Proofs.YtdljgjlkfihjdaaGreatDoor
open Go.RowKit
set_option linter.unusedVariables false
set_option linter.unusedSimpArgs false

theorem set_grownT (w : World) (g i : Nat) (v : Value) : w.grownBy (w.setCell ⟨g, i, none⟩ v) (some g) :=
  ⟨rfl, rfl, rfl, by simp [World.setCell], fun k hk hne => Below.heap_setCell _ _ _ _ (fun e => hne (by rw [e]))⟩
theorem eyeT_len (t : List Team) (who : List UInt8) (n : Nat) : (eyeT t who n).length ≤ n := by
  unfold eyeT; split
  · simp
  · exact teamsOf_len t who n
def EyePost2 (t : List Team) (who : List UInt8) (house : Bool) (w : World) (e : Ending) (w' : World) : Prop :=
  ∃ A c, e = .returned (.agg #[.bool house, .slice A (eyeT t who t.length).length c]) ∧ namesRp.ok w' (· < w'.heap.size) [.slice A (eyeT t who t.length).length c] (eyeT t who t.length) ∧ Below w.heap.size w w' ∧ ∃ B, w.heap.size ≤ B ∧ w'.ownsRow B 9 1 (.slice A (eyeT t who t.length).length c) (eyeT t who t.length).length (strs (eyeT t who t.length))
def EyePost (t : List Team) (who : List UInt8) (house : Bool) (w : World) (e : Ending) (w' : World) : Prop :=
  ∃ A c, e = .returned (.agg #[.bool house, .slice A (eyeT t who t.length).length c]) ∧ namesRp.ok w' (· < w'.heap.size) [.slice A (eyeT t who t.length).length c] (eyeT t who t.length) ∧ Below w.heap.size w w'
set_option maxRecDepth 100000 in
set_option maxHeartbeats 8000000 in
theorem eyeOf2_any (v : Value) (t : List Team) (who : List UInt8) (house : Bool) (w : World) (h0 : (Rp.sl teamRp).ok w (· < w.heap.size) [v] t) (hg : TGood t) :
    Calls Tryz.prog 33 #[v, .agg #[.string (bstr who), .bool house]] w (EyePost2 t who house w) := by
  obtain ⟨A, c, rfl, hl, hc, _⟩ := Rp.sl_open h0
  unfold maxLen at hc
  have hlen := hg.len
  have HNL := Lib.hid (names_len h0)
  have H0 := Lib.hid h0
  have HG := Lib.hid hg
  have hl1 := (Below.refl w.heap.size w).alloc (Nat.le_refl _) (.cells #[.string (bstr who), .bool house] 46)
  have hl2 := (Below.refl (w.alloc (.cells #[.string (bstr who), .bool house] 46)).heap.size _).alloc (Nat.le_refl _) (.cells #[.bool false, .slice none 0 0] 63)
  have hl3 := (Below.refl ((w.alloc (.cells #[.string (bstr who), .bool house] 46)).alloc (.cells #[.bool false, .slice none 0 0] 63)).heap.size _).alloc (Nat.le_refl _) (.cells #[.bool house, .slice none 0 0] 63)
  have HB3 := Lib.hid ((hl1.trans (hl2.mono (by simp))).trans (hl3.mono (by simp; omega)))
  have hkv : Blk (((w.alloc (.cells #[.string (bstr who), .bool house] 46)).alloc (.cells #[.bool false, .slice none 0 0] 63)).alloc (.cells #[.bool house, .slice none 0 0] 63)) w.heap.size 46 [.string (bstr who), .bool house] := ((Blk.new w 46 [.string (bstr who), .bool house]).same (same_below hl2) (by simp)).same (same_below hl3) (by simp; omega)
  have hkv2 : Blk ((w.alloc (.cells #[.string (bstr who), .bool house] 46)).alloc (.cells #[.bool false, .slice none 0 0] 63)) w.heap.size 46 [.string (bstr who), .bool house] := (Blk.new w 46 [.string (bstr who), .bool house]).same (same_below hl2) (by simp)
  have hkr : Blk (((w.alloc (.cells #[.string (bstr who), .bool house] 46)).alloc (.cells #[.bool false, .slice none 0 0] 63)).alloc (.cells #[.bool house, .slice none 0 0] 63)) (w.heap.size + 1) 63 [.bool false, .slice none 0 0] := by
    have := (Blk.new (w.alloc (.cells #[.string (bstr who), .bool house] 46)) 63 [.bool false, .slice none 0 0]).same (same_below hl3) (by simp)
    rwa [World.size_alloc] at this
  have hke : Blk (((w.alloc (.cells #[.string (bstr who), .bool house] 46)).alloc (.cells #[.bool false, .slice none 0 0] 63)).alloc (.cells #[.bool house, .slice none 0 0] 63)) (w.heap.size + 1 + 1) 63 [.bool house, .slice none 0 0] := by
    have := Blk.new ((w.alloc (.cells #[.string (bstr who), .bool house] 46)).alloc (.cells #[.bool false, .slice none 0 0] 63)) 63 [.bool house, .slice none 0 0]
    rwa [World.size_alloc, World.size_alloc] at this
  have v1 : ((w.alloc (.cells #[.string (bstr who), .bool house] 46)).alloc (.cells #[.bool false, .slice none 0 0] 63)).cell? ⟨w.heap.size, 1, none⟩ = some (.bool house) := hkv2.cell 1
  have HKV := Lib.hid hkv
  have HKR := Lib.hid hkr
  have HKE := Lib.hid hke
  have hsz3 : (((w.alloc (.cells #[.string (bstr who), .bool house] 46)).alloc (.cells #[.bool false, .slice none 0 0] 63)).alloc (.cells #[.bool house, .slice none 0 0] 63)).heap.size = w.heap.size + 1 + 1 + 1 := by simp
  clear h0 hg hl1 hl2 hl3 hkv hkr hke hkv2
  go_enter Tryz.func33, Tryz.ntmps33
  go_wp2_with fail
  generalize (((w.alloc (.cells #[.string (bstr who), .bool house] 46)).alloc (.cells #[.bool false, .slice none 0 0] 63)).alloc (.cells #[.bool house, .slice none 0 0] 63)) = w3 at *
  clear v1
  go_loopw [13] (fun vi wr => ∃ (k : Nat) (vt : Value), k ≤ t.length ∧ vi = .int .i64 k ∧ Hid (Blk wr w.heap.size 46 [.string (bstr who), .bool house]) ∧ Hid (Blk wr (w.heap.size + 1) 63 [.bool false, .slice none 0 0]) ∧ Hid (Blk wr (w.heap.size + 1 + 1) 63 [.bool house, vt]) ∧ Hid (wr.ownsRow w3.heap.size 9 1 vt (eyeT t who k).length (strs (eyeT t who k))) ∧ Hid (Below w.heap.size w wr)) (fun vi _ => t.length - (intOf vi).toNat)
  case atStart => exact ⟨0, .slice none 0 0, by omega, rfl, HKV, HKR, HKE, by show World.ownsRow _ _ _ _ _ _ _; unfold eyeT; split <;> exact World.ownsRow_nil _ _ _ _, HB3⟩
  case round =>
    clear HKV HKR HKE HB3
    obtain ⟨k, vt, hk, rfl, HKV, HKR, HKE, HO, HB⟩ := hrel
    obtain ⟨Ae, ce, hvt, hce1, hce2, hblk⟩ := own_form HO.out
    subst hvt
    have hszr : w.heap.size + 1 + 1 < wr.heap.size := HKE.out.lt
    by_cases hlt : k < t.length
    · obtain ⟨ad, cc, Ap, cp, At, ct, e1, hadb, c0, c1, c2, hz, hp, ht⟩ := team_at (Rp.below _ H0.out HB.out) hlt
      injection e1 with e1 _ e2
      subst e1 e2
      have HY : Hid (who ≠ [] → inB t k who = true → eyeT t who (k + 1) = eyeT t who k ++ [t[k].name]) := Lib.hid (fun hw h => by unfold eyeT; rw [if_neg hw, if_neg hw, teamsOf, if_pos h, getD_at _ _ hlt])
      have HN : Hid ((who = [] ∨ inB t k who = false) → eyeT t who (k + 1) = eyeT t who k) := Lib.hid (fun h => by
        unfold eyeT
        by_cases hw : who = []
        · rw [if_pos hw, if_pos hw]
        · rw [if_neg hw, if_neg hw, teamsOf, if_neg (by rw [h.resolve_left hw]; decide)])
      have hol := eyeT_len t who k
      clear hp ht hz hadb
      generalize hx : t[k] = x at *
      clear hx
      have hal := (Below.refl wr.heap.size wr).alloc (Nat.le_refl _) (.cells #[.string (bstr x.name), .slice Ap x.people.length cp, .slice At x.teams.length ct] 69)
      have HB4 := Lib.hid (HB.out.trans (hal.mono HB.out.size))
      have HKV4 := Lib.hid (HKV.out.same (same_below hal) HKV.out.lt)
      have HKR4 := Lib.hid (HKR.out.same (same_below hal) HKR.out.lt)
      have HKE4 := Lib.hid (HKE.out.same (same_below hal) HKE.out.lt)
      have HO4 := Lib.hid (own_below HO.out hal)
      have hkb := Blk.new wr 69 [.string (bstr x.name), .slice Ap x.people.length cp, .slice At x.teams.length ct]
      have d0 : _ = some (Value.string (bstr x.name)) := hkb.cell 0
      have hsz4 : wr.heap.size < (wr.alloc (.cells #[.string (bstr x.name), .slice Ap x.people.length cp, .slice At x.teams.length ct] 69)).heap.size := by simp
      have v0 : (wr.alloc (.cells #[.string (bstr x.name), .slice Ap x.people.length cp, .slice At x.teams.length ct] 69)).cell? ⟨w.heap.size, 0, none⟩ = some (.string (bstr who)) := HKV4.out.cell 0
      clear hkb hal
      by_cases hw : who = []
      · have he : (bstr who).toList.isEmpty = true := by rw [hw, bstr_toList]; rfl
        have HE := Lib.hid (HN.out (.inl hw))
        clear HN HY hw
        go_wp2_with fail
        go_roundw
        case rel => first | exact ⟨k + 1, _, by omega, by go_num, HKV4, HKR4, HKE4, by rw [HE.out]; exact HO4, HB4⟩ | (repeat (apply Exists.intro); (refine And.intro ?_ ?_; rotate_left; (repeat' (first | exact rfl | apply And.intro)); exact ⟨k + 1, _, by omega, by go_num, HKV4, HKR4, HKE4, by rw [HE.out]; exact HO4, HB4⟩))
        case measure => simp [intOf]; omega
      have he : (bstr who).toList.isEmpty = false := by
        rw [bstr_toList]; cases hq : who with | nil => exact absurd hq hw | cons _ _ => rfl
      have HWN := Lib.hid hw
      clear hw
      go_wp2_with fail
      generalize wr.alloc (.cells #[.string (bstr x.name), .slice Ap x.people.length cp, .slice At x.teams.length ct] 69) = w4 at *
      refine (isIn_any _ t k who w4 (Rp.ext _ H0.out HB4.out) HG.out hlt).mono ?_
      rintro e w5 ⟨rfl, hb5⟩
      have HB5 := Lib.hid (HB4.out.trans (hb5.mono HB4.out.size))
      have HKV5 := Lib.hid (HKV4.out.same (same_below hb5) HKV4.out.lt)
      have HKR5 := Lib.hid (HKR4.out.same (same_below hb5) HKR4.out.lt)
      have HKE5 := Lib.hid (HKE4.out.same (same_below hb5) HKE4.out.lt)
      have HO5 := Lib.hid (own_below HO4.out hb5)
      have d0 : w5.cell? ⟨wr.heap.size, 0, none⟩ = some (.string (bstr x.name)) := (hb5.cell (p := ⟨wr.heap.size, 0, none⟩) hsz4).trans d0
      have hsz5 : wr.heap.size < w5.heap.size := by have := hb5.size; omega
      clear hb5 HO HO4 HKV4 HKR4 HKE4 HKV HKR HKE v0 HB4
      cases hq : inB t k who with
      | false =>
        have HE := Lib.hid (HN.out (.inr hq))
        clear hq HN HY
        go_wp2_with fail
        go_roundw
        case rel => first | exact ⟨k + 1, _, by omega, by go_num, HKV5, HKR5, HKE5, by rw [HE.out]; exact HO5, HB5⟩ | (repeat (apply Exists.intro); (refine And.intro ?_ ?_; rotate_left; (repeat' (first | exact rfl | apply And.intro)); exact ⟨k + 1, _, by omega, by go_num, HKV5, HKR5, HKE5, by rw [HE.out]; exact HO5, HB5⟩))
        case measure => simp [intOf]; omega
      | true =>
        have HE := Lib.hid (HY.out HWN.out hq)
        have e1 : w5.cell? ⟨w.heap.size + 1 + 1, 1, none⟩ = some (.slice Ae (eyeT t who k).length ce) := HKE5.out.cell 1
        have HNB : Hid (∀ g, (Value.slice Ae (eyeT t who k).length ce).ownBlock = some g → w3.heap.size ≤ g) := Lib.hid (fun g hg => (HO5.out.lt g hg).1)
        have HS3 := Lib.hid hsz3
        clear hq HN HY hblk
        go_wp2_with (at_builtin; go_must (refine app_new (w := w5) rfl (.tmp 29) (.tmp 32) 59 rfl 9 (.string ⟨#[]⟩) 1 16 Tryz.underlying59 str_info rfl (by decide) (m := 1) [.string (bstr x.name)] HO5.out (by omega) rfl rfl rfl (by decide) (by simp [Value.oneCell']) (by unfold maxLen; omega) (by omega) ?_); intro g7 c7 w7 HO7 HG7 HE7 HL7; have HKV7 := Lib.hid (HKV5.out.same (grown_same HG7.out) ⟨HKV5.out.lt, fun e => by have := HNB.out _ e.symm; have := HS3.out; omega⟩); have HKR7 := Lib.hid (HKR5.out.same (grown_same HG7.out) ⟨HKR5.out.lt, fun e => by have := HNB.out _ e.symm; have := HS3.out; omega⟩); have HKE7 := Lib.hid (HKE5.out.same (grown_same HG7.out) ⟨HKE5.out.lt, fun e => by have := HNB.out _ e.symm; have := HS3.out; omega⟩); have z1 := HKE7.out.frozen 1; have e7 : w7.cell? ⟨w.heap.size + 1 + 1, 1, none⟩ = some (.slice Ae (eyeT t who k).length ce) := HKE7.out.cell 1)
        have HB7 : Hid (Below w.heap.size w w7) := Lib.hid (HB5.out.grown HG7.out HB5.out.size (fun j hj => by have := HNB.out _ hj; have := HS3.out; omega))
        have hne1 : w.heap.size + 1 + 1 ≠ w.heap.size := by omega
        have HKV8 := Lib.hid (HKV7.out.same (S := (· < w.heap.size + 1 + 1)) (w' := w7.setCell ⟨w.heap.size + 1 + 1, 1, none⟩ (.slice (some ⟨g7, 0, none⟩) ((eyeT t who k).length + 1) c7)) (fun j hj => Below.heap_setCell _ _ _ _ (by show j ≠ w.heap.size + 1 + 1; have : j < w.heap.size + 1 + 1 := hj; omega)) (by omega))
        have HKR8 := Lib.hid (HKR7.out.same (S := (· < w.heap.size + 1 + 1)) (w' := w7.setCell ⟨w.heap.size + 1 + 1, 1, none⟩ (.slice (some ⟨g7, 0, none⟩) ((eyeT t who k).length + 1) c7)) (fun j hj => Below.heap_setCell _ _ _ _ (by show j ≠ w.heap.size + 1 + 1; have : j < w.heap.size + 1 + 1 := hj; omega)) (by omega))
        have HKE8 := Lib.hid (HKE7.out.set_ 1 (.slice (some ⟨g7, 0, none⟩) ((eyeT t who k).length + 1) c7))
        have HB8 := Lib.hid (HB7.out.setCell (p := ⟨w.heap.size + 1 + 1, 1, none⟩) (by show w.heap.size ≤ w.heap.size + 1 + 1; omega) (.slice (some ⟨g7, 0, none⟩) ((eyeT t who k).length + 1) c7))
        have HO8 : Hid ((w7.setCell ⟨w.heap.size + 1 + 1, 1, none⟩ (.slice (some ⟨g7, 0, none⟩) ((eyeT t who k).length + 1) c7)).ownsRow w3.heap.size 9 1 (.slice (some ⟨g7, 0, none⟩) ((eyeT t who k).length + 1) c7) (eyeT t who (k + 1)).length (strs (eyeT t who (k + 1)))) := Lib.hid (by
          rw [HE.out, strs_app, List.length_append, List.length_singleton]
          exact HO7.out.kept (set_grownT w7 _ _ _) (.inr (fun e => by
            have h1 := (HO7.out.lt g7 rfl).1
            have h2 : g7 = w.heap.size + 1 + 1 := by cases e; rfl
            have := HS3.out
            omega)))
        go_roundw
        case rel => first | exact ⟨k + 1, _, by omega, by go_num, HKV8, HKR8, HKE8, HO8, HB8⟩ | (repeat (apply Exists.intro); (refine And.intro ?_ ?_; rotate_left; (repeat' (first | exact rfl | apply And.intro)); exact ⟨k + 1, _, by omega, by go_num, HKV8, HKR8, HKE8, HO8, HB8⟩))
        case measure => simp [intOf]; omega
    · obtain rfl : k = t.length := by omega
      have HNB : Hid (∀ g, (Value.slice Ae (eyeT t who t.length).length ce).ownBlock = some g → w3.heap.size ≤ g) := Lib.hid (fun g hg => (HO.out.lt g hg).1)
      have HS3 := Lib.hid hsz3
      have e0 : wr.cell? ⟨w.heap.size + 1 + 1, 0, none⟩ = some (.bool house) := HKE.out.cell 0
      have e1 : wr.cell? ⟨w.heap.size + 1 + 1, 1, none⟩ = some (.slice Ae (eyeT t who t.length).length ce) := HKE.out.cell 1
      have r0 : wr.cell? ⟨w.heap.size + 1, 0, none⟩ = some (.bool false) := HKR.out.cell 0
      have r1 : wr.cell? ⟨w.heap.size + 1, 1, none⟩ = some (.slice none 0 0) := HKR.out.cell 1
      have z0 := HKR.out.frozen 0
      have z1 := HKR.out.frozen 1
      have HS := Lib.hid ((HKR.out.set_ 0 (.bool house)).set_ 1 (.slice Ae (eyeT t who t.length).length ce))
      have HBS := Lib.hid ((HB.out.setCell (p := ⟨w.heap.size + 1, 0, none⟩) (by show w.heap.size ≤ w.heap.size + 1; omega) (.bool house)).setCell (p := ⟨w.heap.size + 1, 1, none⟩) (by show w.heap.size ≤ w.heap.size + 1; omega) (.slice Ae (eyeT t who t.length).length ce))
      have HOX := Lib.hid ((HO.out.kept (set_grownT wr (w.heap.size + 1) 0 (.bool house)) (.inr (fun e => by have := HNB.out _ e; have := HS3.out; omega))).kept (set_grownT _ (w.heap.size + 1) 1 (.slice Ae (eyeT t who t.length).length ce)) (.inr (fun e => by have := HNB.out _ e; have := HS3.out; omega)))
      have HRD2 : Hid (namesRp.ok ((wr.setCell ⟨w.heap.size + 1, 0, none⟩ (.bool house)).setCell ⟨w.heap.size + 1, 1, none⟩ (.slice Ae (eyeT t who t.length).length ce)) (· < ((wr.setCell ⟨w.heap.size + 1, 0, none⟩ (.bool house)).setCell ⟨w.heap.size + 1, 1, none⟩ (.slice Ae (eyeT t who t.length).length ce)).heap.size) [.slice Ae (eyeT t who t.length).length ce] (eyeT t who t.length)) := Lib.hid (by
        have ho := (HO.out.kept (set_grownT wr (w.heap.size + 1) 0 (.bool house)) (.inr (fun e => by have := HNB.out _ e; have := HS3.out; omega))).kept (set_grownT _ (w.heap.size + 1) 1 (.slice Ae (eyeT t who t.length).length ce)) (.inr (fun e => by have := HNB.out _ e; have := HS3.out; omega))
        refine Rp.str_own (B := w3.heap.size) (e := 9) (n := (eyeT t who t.length).length) ?_ (fun x hx => ?_) (fun g hg => (ho.lt g hg).2)
        · unfold strs at ho
          rw [List.map_map]; exact ho
        · obtain ⟨z, hz, rfl⟩ := List.mem_map.1 hx
          unfold eyeT at hz
          split at hz
          · cases hz
          · exact teamsOf_name HNL.out t.length (Nat.le_refl _) z hz)
      go_wp2_with fail
      have u0 := HS.out.cell 0
      have u1 := HS.out.cell 1
      simp only [List.set_cons_zero, List.set_cons_succ, List.getElem?_cons_zero, List.getElem?_cons_succ] at u0 u1
      exact bodyPost_ret (v := .agg #[.bool house, .slice Ae (eyeT t who t.length).length ce]) (by simp [results, Tryz.results33, go_sem, u0, u1]) rfl ⟨_, _, rfl, HRD2.out, HBS.out, _, by have := HS3.out; omega, HOX.out⟩
theorem eyeOf_any (v : Value) (t : List Team) (who : List UInt8) (house : Bool) (w : World) (h0 : (Rp.sl teamRp).ok w (· < w.heap.size) [v] t) (hg : TGood t) :
    Calls Tryz.prog 33 #[v, .agg #[.string (bstr who), .bool house]] w (EyePost t who house w) :=
  (eyeOf2_any v t who house w h0 hg).mono fun e w' ⟨A, c, h1, h2, h3, _⟩ => ⟨A, c, h1, h2, h3⟩
end Go.Proofs.YtdljgjlkfihjdaaGreatDoor
