/-
  times and keysOf of the reference of chapter 10.
-/
import Derived.Test.YtdljgjlkfihjdaaGreatDoorSortI
import Derived.Test.YtdljgjlkfihjdaaGreatDoorRights
import Derived.Test.YtdljgjlkfihjdaaGreatDoorUnder
import Derived.Test.YtdljgjlkfihjdaaGreatDoorIdleP
import Derived.Test.YtdljgjlkfihjdaaGreatDoorStr
namespace Go.Proofs.YtdljgjlkfihjdaaGreatDoor
open Go.RowKit
set_option linter.unusedVariables false
set_option linter.unusedSimpArgs false

def turL (l : List Rgt) : Nat → List Int
  | 0 => [0]
  | k + 1 => turL l k ++ [(l.getD k default).st, (l.getD k default).made, (l.getD k default).en]
theorem turL_len (l : List Rgt) : ∀ k, (turL l k).length = 3 * k + 1
  | 0 => rfl
  | k + 1 => by rw [turL, List.length_append, turL_len l k]; simp; omega
theorem turL_mem (l : List Rgt) (n : Int) : ∀ k, k ≤ l.length → (n ∈ turL l k ↔ n = 0 ∨ ∃ j, ∃ h : j < l.length, j < k ∧ (n = l[j].st ∨ n = l[j].made ∨ n = l[j].en))
  | 0, _ => by
    rw [turL, List.mem_singleton]
    exact ⟨.inl, fun h => h.elim id (fun ⟨j, _, hj, _⟩ => by omega)⟩
  | k + 1, hk => by
    have ih := turL_mem l n k (by omega)
    rw [turL, getD_at l default (show k < l.length by omega), List.mem_append, ih]
    constructor
    · rintro ((h | ⟨j, h1, h2, h3⟩) | h)
      · exact .inl h
      · exact .inr ⟨j, h1, by omega, h3⟩
      · exact .inr ⟨k, by omega, by omega, by simpa using h⟩
    · rintro (h | ⟨j, h1, h2, h3⟩)
      · exact .inl (.inl h)
      · by_cases e : j = k
        · subst e; exact .inr (by simpa using h3)
        · exact .inl (.inr ⟨j, h1, by omega, h3⟩)
def TurnsPost (l : List Rgt) (w : World) (e : Ending) (w' : World) : Prop :=
  ∃ (v : Value) (ts : List Int), e = .returned v ∧ w'.ownsRow w.heap.size 3 1 v ts.length (ts.map (.int .i64)) ∧ ts.Pairwise (· < ·) ∧ (∀ n, n ∈ ts ↔ n = 0 ∨ ∃ r ∈ l, n = r.st ∨ n = r.made ∨ n = r.en) ∧ ts.length ≤ 90000 ∧ Below w.heap.size w w'
theorem tur_mem (l : List Rgt) (n : Int) : n ∈ Lib.compact (srtI (turL l l.length)) ↔ n = 0 ∨ ∃ r ∈ l, n = r.st ∨ n = r.made ∨ n = r.en := by
  rw [(comp_sorted (srtI_sorted _)).1, srtI_mem, turL_mem l n l.length (Nat.le_refl _)]
  constructor
  · rintro (h | ⟨j, h1, _, h3⟩)
    · exact .inl h
    · exact .inr ⟨l[j], List.getElem_mem h1, h3⟩
  · rintro (h | ⟨r, hr, h3⟩)
    · exact .inl h
    · obtain ⟨j, hj, rfl⟩ := List.mem_iff_getElem.1 hr
      exact .inr ⟨j, hj, hj, h3⟩
set_option maxRecDepth 100000 in
set_option maxHeartbeats 2000000 in
theorem turns_any (v : Value) (l : List Rgt) (w : World) (h0 : (Rp.sl rgtRp).ok w (· < w.heap.size) [v] l) (hm : l.length ≤ 1000) :
    Calls Tryz.prog 31 #[v] w (TurnsPost l w) := by
  obtain ⟨A, cc, rfl, hl, hc, _⟩ := Rp.sl_open h0
  unfold maxLen at hc
  have H0 := Lib.hid h0
  have HB0 := Lib.hid ((Below.refl w.heap.size w).alloc (Nat.le_refl _) (.cells #[.int .i64 0] 3))
  have HO0 : Hid ((w.alloc (.cells #[.int .i64 0] 3)).ownsRow w.heap.size 3 1 (.slice (some ⟨w.heap.size, 0, none⟩) 1 1) 1 [.int .i64 0]) := Lib.hid (World.ownsRow_lit (size := 1) w #[.int .i64 0] 1 (Nat.le_refl _) (by unfold maxLen; omega) rfl)
  clear h0
  go_enter Tryz.func31, Tryz.ntmps31
  go_wp2_with fail
  generalize w.alloc (.cells #[.int .i64 0] 3) = w0 at *
  go_loopw [3, 9] (fun vo vi wr => ∃ k : Nat, k ≤ l.length ∧ vi = .int .i64 k ∧ Hid (wr.ownsRow w.heap.size 3 1 vo (turL l k).length ((turL l k).map (.int .i64))) ∧ Hid (Below w.heap.size w wr)) (fun _ vi _ => l.length - (intOf vi).toNat)
  case atStart => exact ⟨0, by omega, rfl, HO0, HB0⟩
  case round =>
    clear HO0 HB0
    obtain ⟨k, hk, rfl, HO, HB⟩ := hrel
    obtain ⟨Ao, co, hvo, hco1, hco2, _⟩ := own_form HO.out
    subst hvo
    have hel := turL_len l k
    by_cases hlt : k < l.length
    · obtain ⟨ad, c', e1, hadb, c0, c1, c2, c3, c4, c5, c6, c7, c8, hz⟩ := rgt_at (Rp.below _ H0.out HB.out) hlt
      cases e1
      have HS : Hid (turL l (k + 1) = turL l k ++ [l[k].st, l[k].made, l[k].en]) := Lib.hid (by rw [turL, getD_at _ _ hlt])
      generalize l[k] = x at *
      generalize turL l k = E at *
      have hal := (Below.refl wr.heap.size wr).alloc (Nat.le_refl _) (.cells #[.string (bstr x.id), .string (bstr x.pre), .int .i64 x.frm, .int .i64 x.to, .int .i64 x.st, .int .i64 x.en, .int .i64 x.made, .int .i64 x.kind, .string (bstr x.team)] 38)
      have HB4 := Lib.hid (HB.out.trans (hal.mono HB.out.size))
      have HO4 := Lib.hid (own_below HO.out hal)
      have hkx := Blk.new wr 38 [.string (bstr x.id), .string (bstr x.pre), .int .i64 x.frm, .int .i64 x.to, .int .i64 x.st, .int .i64 x.en, .int .i64 x.made, .int .i64 x.kind, .string (bstr x.team)]
      have x4 : (wr.alloc (.cells #[.string (bstr x.id), .string (bstr x.pre), .int .i64 x.frm, .int .i64 x.to, .int .i64 x.st, .int .i64 x.en, .int .i64 x.made, .int .i64 x.kind, .string (bstr x.team)] 38)).cell? ⟨wr.heap.size, 4, none⟩ = some (.int .i64 x.st) := hkx.cell 4
      have x5 : (wr.alloc (.cells #[.string (bstr x.id), .string (bstr x.pre), .int .i64 x.frm, .int .i64 x.to, .int .i64 x.st, .int .i64 x.en, .int .i64 x.made, .int .i64 x.kind, .string (bstr x.team)] 38)).cell? ⟨wr.heap.size, 5, none⟩ = some (.int .i64 x.en) := hkx.cell 5
      have x6 : (wr.alloc (.cells #[.string (bstr x.id), .string (bstr x.pre), .int .i64 x.frm, .int .i64 x.to, .int .i64 x.st, .int .i64 x.en, .int .i64 x.made, .int .i64 x.kind, .string (bstr x.team)] 38)).cell? ⟨wr.heap.size, 6, none⟩ = some (.int .i64 x.made) := hkx.cell 6
      have heb : E.length ≤ 10000 := by omega
      clear hkx hal hel
      go_wp2_with (at_builtin; go_must (refine app_new (w := wr.alloc (.cells #[.string (bstr x.id), .string (bstr x.pre), .int .i64 x.frm, .int .i64 x.to, .int .i64 x.st, .int .i64 x.en, .int .i64 x.made, .int .i64 x.kind, .string (bstr x.team)] 38)) rfl (.tmp 13) (.tmp 20) 26 rfl 3 (.int .i64 0) 1 8 Tryz.underlying26 int_info rfl (by decide) (m := 3) [.int .i64 x.st, .int .i64 x.made, .int .i64 x.en] HO4.out HB4.out.size rfl (by rw [World.size_alloc]; rfl) rfl (by decide) (by simp [Value.oneCell']) (by unfold maxLen; omega) (by omega) ?_); intro g8 c8 w8 HO8 HG8 HE8 HL8)
      have HB8 := Lib.hid (HB4.out.grown HG8.out HB4.out.size (fun g hg => (HO4.out.lt g hg).1))
      go_roundw
      case rel => first | exact ⟨k + 1, by omega, by go_num, by rw [HS.out, List.length_append, List.map_append]; exact HO8, HB8⟩ | (repeat (apply Exists.intro); (refine And.intro ?_ ?_; rotate_left; (repeat' (first | exact rfl | apply And.intro)); exact ⟨k + 1, by omega, by go_num, by rw [HS.out, List.length_append, List.map_append]; exact HO8, HB8⟩))
      case measure => simp [intOf]; omega
    · obtain rfl : k = l.length := by omega
      generalize hes : turL l l.length = es at *
      have HES := Lib.hid hes
      have HEL : Hid (0 < es.length ∧ es.length ≤ 10000) := Lib.hid (by omega)
      clear hes hel
      go_wp2_with fail
      refine (sortI_any _ es w.heap.size wr HO.out HEL.out.1 (by have := HEL.out; omega)).mono ?_
      rintro e w1 ⟨rfl, ho, hg⟩
      have HO1 := Lib.hid ho
      have HB1 := Lib.hid (HB.out.grown hg HB.out.size (fun g hg => (HO.out.lt g hg).1))
      clear ho hg
      have hsl := srtI_len es
      have HSL := Lib.hid hsl
      rw [hsl] at HO1
      clear hsl
      go_wp2_with fail
      refine (compI_any _ (srtI es) w.heap.size w1 (by rw [HSL.out]; exact HO1.out) (by rw [HSL.out]; exact HEL.out.1) (by rw [HSL.out]; have := HEL.out; omega)).mono ?_
      rintro e w2 ⟨v2, rfl, ho, hg⟩
      have HO2 := Lib.hid ho
      have HB2 := Lib.hid (HB1.out.grown hg HB1.out.size (fun g hg => (HO1.out.lt g hg).1))
      clear ho hg
      have HCL := Lib.hid (compI_le (srtI es))
      go_wp2_with fail
      go_ret
      exact ⟨_, _, rfl, HO2.out, (comp_sorted (srtI_sorted es)).2, fun n => by rw [← HES.out]; exact tur_mem l n, by have h1 := HCL.out; have h2 := HSL.out; have h3 := HEL.out; omega, HB2.out⟩
def TimesPost (l : List Rgt) (w : World) (e : Ending) (w' : World) : Prop :=
  ∃ (v : Value) (ts : List Int), e = .returned v ∧ w'.ownsRow w.heap.size 3 1 v ts.length (ts.map (.int .i64)) ∧ ts.Pairwise (· < ·) ∧ (∀ n, n ∈ ts ↔ n = 0 ∨ ∃ r ∈ l, n = r.frm ∨ n = r.to) ∧ ts.length ≤ 90000 ∧ Below w.heap.size w w'
theorem tim_mem (l : List Rgt) (n : Int) : n ∈ Lib.compact (srtI (timL l l.length)) ↔ n = 0 ∨ ∃ r ∈ l, n = r.frm ∨ n = r.to := by
  rw [(comp_sorted (srtI_sorted _)).1, srtI_mem, timL_all]
set_option maxRecDepth 100000 in
set_option maxHeartbeats 2000000 in
theorem times_any (v : Value) (l : List Rgt) (w : World) (h0 : (Rp.sl rgtRp).ok w (· < w.heap.size) [v] l) (hm : l.length ≤ 1000) :
    Calls Tryz.prog 30 #[v] w (TimesPost l w) := by
  obtain ⟨A, cc, rfl, hl, hc, _⟩ := Rp.sl_open h0
  unfold maxLen at hc
  have H0 := Lib.hid h0
  have HB0 := Lib.hid ((Below.refl w.heap.size w).alloc (Nat.le_refl _) (.cells #[.int .i64 0] 3))
  have HO0 : Hid ((w.alloc (.cells #[.int .i64 0] 3)).ownsRow w.heap.size 3 1 (.slice (some ⟨w.heap.size, 0, none⟩) 1 1) 1 [.int .i64 0]) := Lib.hid (World.ownsRow_lit (size := 1) w #[.int .i64 0] 1 (Nat.le_refl _) (by unfold maxLen; omega) rfl)
  clear h0
  go_enter Tryz.func30, Tryz.ntmps30
  go_wp2_with fail
  generalize w.alloc (.cells #[.int .i64 0] 3) = w0 at *
  go_loopw [3, 9] (fun vo vi wr => ∃ k : Nat, k ≤ l.length ∧ vi = .int .i64 k ∧ Hid (wr.ownsRow w.heap.size 3 1 vo (timL l k).length ((timL l k).map (.int .i64))) ∧ Hid (Below w.heap.size w wr)) (fun _ vi _ => l.length - (intOf vi).toNat)
  case atStart => exact ⟨0, by omega, rfl, HO0, HB0⟩
  case round =>
    clear HO0 HB0
    obtain ⟨k, hk, rfl, HO, HB⟩ := hrel
    obtain ⟨Ao, co, hvo, hco1, hco2, _⟩ := own_form HO.out
    subst hvo
    have hel := timL_len l k
    by_cases hlt : k < l.length
    · obtain ⟨ad, c', e1, hadb, c0, c1, c2, c3, c4, c5, c6, c7, c8, hz⟩ := rgt_at (Rp.below _ H0.out HB.out) hlt
      cases e1
      have HS : Hid (timL l (k + 1) = timL l k ++ [l[k].frm, l[k].to]) := Lib.hid (by rw [timL, getD_at _ _ hlt])
      generalize l[k] = x at *
      generalize timL l k = E at *
      have hal := (Below.refl wr.heap.size wr).alloc (Nat.le_refl _) (.cells #[.string (bstr x.id), .string (bstr x.pre), .int .i64 x.frm, .int .i64 x.to, .int .i64 x.st, .int .i64 x.en, .int .i64 x.made, .int .i64 x.kind, .string (bstr x.team)] 38)
      have HB4 := Lib.hid (HB.out.trans (hal.mono HB.out.size))
      have HO4 := Lib.hid (own_below HO.out hal)
      have hkx := Blk.new wr 38 [.string (bstr x.id), .string (bstr x.pre), .int .i64 x.frm, .int .i64 x.to, .int .i64 x.st, .int .i64 x.en, .int .i64 x.made, .int .i64 x.kind, .string (bstr x.team)]
      have x2 : (wr.alloc (.cells #[.string (bstr x.id), .string (bstr x.pre), .int .i64 x.frm, .int .i64 x.to, .int .i64 x.st, .int .i64 x.en, .int .i64 x.made, .int .i64 x.kind, .string (bstr x.team)] 38)).cell? ⟨wr.heap.size, 2, none⟩ = some (.int .i64 x.frm) := hkx.cell 2
      have x3 : (wr.alloc (.cells #[.string (bstr x.id), .string (bstr x.pre), .int .i64 x.frm, .int .i64 x.to, .int .i64 x.st, .int .i64 x.en, .int .i64 x.made, .int .i64 x.kind, .string (bstr x.team)] 38)).cell? ⟨wr.heap.size, 3, none⟩ = some (.int .i64 x.to) := hkx.cell 3
      have heb : E.length ≤ 10000 := by omega
      clear hkx hal hel
      go_wp2_with (at_builtin; go_must (refine app_new (w := wr.alloc (.cells #[.string (bstr x.id), .string (bstr x.pre), .int .i64 x.frm, .int .i64 x.to, .int .i64 x.st, .int .i64 x.en, .int .i64 x.made, .int .i64 x.kind, .string (bstr x.team)] 38)) rfl (.tmp 13) (.tmp 18) 26 rfl 3 (.int .i64 0) 1 8 Tryz.underlying26 int_info rfl (by decide) (m := 2) [.int .i64 x.frm, .int .i64 x.to] HO4.out HB4.out.size rfl (by rw [World.size_alloc]; rfl) rfl (by decide) (by simp [Value.oneCell']) (by unfold maxLen; omega) (by omega) ?_); intro g8 c8 w8 HO8 HG8 HE8 HL8)
      have HB8 := Lib.hid (HB4.out.grown HG8.out HB4.out.size (fun g hg => (HO4.out.lt g hg).1))
      go_roundw
      case rel => first | exact ⟨k + 1, by omega, by go_num, by rw [HS.out, List.length_append, List.map_append]; exact HO8, HB8⟩ | (repeat (apply Exists.intro); (refine And.intro ?_ ?_; rotate_left; (repeat' (first | exact rfl | apply And.intro)); exact ⟨k + 1, by omega, by go_num, by rw [HS.out, List.length_append, List.map_append]; exact HO8, HB8⟩))
      case measure => simp [intOf]; omega
    · obtain rfl : k = l.length := by omega
      generalize hes : timL l l.length = es at *
      have HES := Lib.hid hes
      have HEL : Hid (0 < es.length ∧ es.length ≤ 10000) := Lib.hid (by omega)
      clear hes hel
      go_wp2_with fail
      refine (sortI_any _ es w.heap.size wr HO.out HEL.out.1 (by have := HEL.out; omega)).mono ?_
      rintro e w1 ⟨rfl, ho, hg⟩
      have HO1 := Lib.hid ho
      have HB1 := Lib.hid (HB.out.grown hg HB.out.size (fun g hg => (HO.out.lt g hg).1))
      clear ho hg
      have hsl := srtI_len es
      have HSL := Lib.hid hsl
      rw [hsl] at HO1
      clear hsl
      go_wp2_with fail
      refine (compI_any _ (srtI es) w.heap.size w1 (by rw [HSL.out]; exact HO1.out) (by rw [HSL.out]; exact HEL.out.1) (by rw [HSL.out]; have := HEL.out; omega)).mono ?_
      rintro e w2 ⟨v2, rfl, ho, hg⟩
      have HO2 := Lib.hid ho
      have HB2 := Lib.hid (HB1.out.grown hg HB1.out.size (fun g hg => (HO1.out.lt g hg).1))
      clear ho hg
      have HCL := Lib.hid (compI_le (srtI es))
      go_wp2_with fail
      go_ret
      exact ⟨_, _, rfl, HO2.out, (comp_sorted (srtI_sorted es)).2, fun n => by rw [← HES.out]; exact tim_mem l n, by have h1 := HCL.out; have h2 := HSL.out; have h3 := HEL.out; omega, HB2.out⟩
theorem keys_cell (k : Nat) : ((List.range k).map fun i => Value.string (bstr [UInt8.ofNat (33 + i)])) ++ [.string (bstr [UInt8.ofNat (33 + k)])] = (List.range (k + 1)).map fun i => Value.string (bstr [UInt8.ofNat (33 + i)]) := by
  rw [List.range_succ, List.map_append]
  rfl
theorem own_blwK {w w' : World} {B : Nat} {e : TypeId} {size n : Nat} {v : Value} {xs : List Value} (h : w.ownsRow B e size v n xs) (hb : Below w.heap.size w w') : w'.ownsRow B e size v n xs :=
  h.kept (row := none) ⟨hb.os, hb.tape, hb.output, hb.size, fun k hk _ => hb.block k hk⟩ (by cases hg : v.ownBlock <;> simp)
set_option maxRecDepth 100000 in
set_option maxHeartbeats 2000000 in
theorem keysOf_any (r : Rgt) (w : World) (hp : r.pre.length ≤ maxLen) :
    Calls Tryz.prog 29 #[.agg #[.string (bstr r.id), .string (bstr r.pre), .int .i64 r.frm, .int .i64 r.to, .int .i64 r.st, .int .i64 r.en, .int .i64 r.made, .int .i64 r.kind, .string (bstr r.team)]] w fun e w' => ∃ v, e = .returned v ∧ (Rp.sl Rp.str).ok w' (· < w'.heap.size) [v] ((keysL r).map bstr) ∧ Below w.heap.size w w' := by
  have hal := (Below.refl w.heap.size w).alloc (Nat.le_refl _) (.cells #[.string (bstr r.id), .string (bstr r.pre), .int .i64 r.frm, .int .i64 r.to, .int .i64 r.st, .int .i64 r.en, .int .i64 r.made, .int .i64 r.kind, .string (bstr r.team)] 38)
  have HAL := Lib.hid hal
  have hkb := Blk.new w 38 (rgtCells r)
  have k1 : (w.alloc (.cells #[.string (bstr r.id), .string (bstr r.pre), .int .i64 r.frm, .int .i64 r.to, .int .i64 r.st, .int .i64 r.en, .int .i64 r.made, .int .i64 r.kind, .string (bstr r.team)] 38)).cell? ⟨w.heap.size, 1, none⟩ = some (.string (bstr r.pre)) := hkb.cell 1
  clear hkb hal
  by_cases hr : r.pre = []
  · have hem : (bstr r.pre).toList.isEmpty = true := by rw [bstr_toList, hr]; rfl
    have HK : Hid (keysL r = (List.range 94).map fun i => [UInt8.ofNat (33 + i)]) := Lib.hid (if_pos hr)
    clear hr
    go_enter Tryz.func29, Tryz.ntmps29
    go_wp2_with fail
    clear k1
    generalize w.alloc (.cells #[.string (bstr r.id), .string (bstr r.pre), .int .i64 r.frm, .int .i64 r.to, .int .i64 r.st, .int .i64 r.en, .int .i64 r.made, .int .i64 r.kind, .string (bstr r.team)] 38) = w0 at *
    go_loopw [3, 4] (fun vo vi wr => ∃ k : Nat, k ≤ 94 ∧ vi = .int .u8 (33 + (k : Int)) ∧ Hid (wr.ownsRow w.heap.size 9 1 vo k ((List.range k).map fun i => Value.string (bstr [UInt8.ofNat (33 + i)]))) ∧ Hid (Below w.heap.size w wr)) (fun _ vi _ => 200 - (intOf vi).toNat)
    case atStart => exact ⟨0, by omega, rfl, World.ownsRow_nil _ _ _ _, HAL⟩
    case round =>
      clear HAL
      obtain ⟨k, hk, rfl, HO, HB⟩ := hrel
      by_cases hlt : k < 94
      · have hki : (33 + (k : Int)) ≤ 126 := by omega
        have hu8 : ((UInt8.ofNat (33 + k)).toNat : Int) = 33 + (k : Int) := by
          rw [UInt8.toNat_ofNat_of_lt' (by show 33 + k < 256; omega)]; omega
        have hw8 : IntKind.u8.wrap (33 + (k : Int) + 1) = 33 + (k : Int) + 1 := by simp [IntKind.wrap, IntKind.bits, IntKind.signed]; omega
        have hal2 := (Below.refl wr.heap.size wr).alloc (Nat.le_refl _) (.cells #[.int .u8 (33 + (k : Int))] 5)
        have hrd : (Rp.sl Rp.u8).ok (wr.alloc (.cells #[.int .u8 (33 + (k : Int))] 5)) (· < (wr.alloc (.cells #[.int .u8 (33 + (k : Int))] 5)).heap.size) [.slice (some ⟨wr.heap.size, 0, none⟩) 1 1] [UInt8.ofNat (33 + k)] := by
          have h := World.ownsRow_lit (base := wr.heap.size) (e := 5) (size := 1) wr #[.int .u8 (33 + (k : Int))] 1 (Nat.le_refl _) (by decide) rfl
          refine Rp.u8_own (B := wr.heap.size) (e := 5) (n := 1) ?_ (fun g hg => (h.lt g hg).2)
          rw [List.map_cons, List.map_nil, hu8]
          exact h
        have hcb := conv_bytes (P := Tryz.prog) 41 5 9 Tryz.underlying41 Tryz.underlying5 Tryz.underlying9 hrd
        have HB2 := Lib.hid (HB.out.trans (hal2.mono HB.out.size))
        have HO2 := Lib.hid (own_blwK HO.out hal2)
        clear hal2 hrd hu8
        generalize hbk : UInt8.ofNat (33 + k) = bk at *
        go_wp2_with (at_builtin; refine app_str (w := wr.alloc (.cells #[.int .u8 (33 + (k : Int))] 5)) rfl (.tmp 15) (.tmp 19) rfl HO2.out HB2.out.size rfl (by rw [World.size_alloc]; rfl) (by omega) ?_; intro g1 cc1 w9 HO9 HG9 HB9 HL9)
        have HB10 := Lib.hid (HB9.out _ HB2.out)
        have ho := HO9.out
        rw [← hbk, keys_cell] at ho
        have HO10 := Lib.hid ho
        clear HO9 HG9 HB9 HL9 ho hcb
        go_wp2_with fail
        go_roundw
        case rel => exact ⟨k + 1, by omega, by go_num, HO10, HB10⟩
        case measure => simp [intOf]; omega
      · obtain rfl : k = 94 := by omega
        go_wp2_with fail
        go_ret
        refine ⟨_, rfl, ?_, HB.out⟩
        rw [HK.out, List.map_map]
        have hO := HO.out
        have e : ((List.range 94).map fun i => Value.string (bstr [UInt8.ofNat (33 + i)])) = ((List.range 94).map (bstr ∘ fun i => [UInt8.ofNat (33 + i)])).map Value.string := by rw [List.map_map]; rfl
        rw [e] at hO
        exact Rp.str_own hO (fun x hx => by obtain ⟨i, _, rfl⟩ := List.mem_map.1 hx; show 1 ≤ maxLen; decide) (fun g hg => (hO.lt g hg).2)
  · have hem : (bstr r.pre).toList.isEmpty = false := by
      rw [bstr_toList]; cases hq : r.pre with | nil => exact absurd hq hr | cons _ _ => rfl
    have HK : Hid (keysL r = [r.pre]) := Lib.hid (if_neg hr)
    have HLS := Lib.hid (lit_strs (w.alloc (.cells #[.string (bstr r.id), .string (bstr r.pre), .int .i64 r.frm, .int .i64 r.to, .int .i64 r.st, .int .i64 r.en, .int .i64 r.made, .int .i64 r.kind, .string (bstr r.team)] 38)) [bstr r.pre] (fun x hx => by rw [List.mem_singleton] at hx; subst hx; exact hp) (by simp))
    have HB2 := Lib.hid (HAL.out.alloc HAL.out.size (.cells #[.string (bstr r.pre)] 9))
    clear hr
    go_enter Tryz.func29, Tryz.ntmps29
    go_wp2_with fail
    go_ret
    refine ⟨_, rfl, ?_, HB2.out⟩
    rw [HK.out]
    have hz : (w.alloc (.cells #[.string (bstr r.id), .string (bstr r.pre), .int .i64 r.frm, .int .i64 r.to, .int .i64 r.st, .int .i64 r.en, .int .i64 r.made, .int .i64 r.kind, .string (bstr r.team)] 38)).heap.size = w.heap.size + 1 := by simp
    have h := HLS.out
    rw [hz] at h
    exact h
end Go.Proofs.YtdljgjlkfihjdaaGreatDoor
