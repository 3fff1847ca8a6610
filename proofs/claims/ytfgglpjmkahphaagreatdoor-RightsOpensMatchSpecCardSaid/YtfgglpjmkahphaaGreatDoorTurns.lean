/-
  'turns' of the reference of chapter 10; slices.Equal at spans.
-/
import Derived.Test.YtfgglpjmkahphaaGreatDoorSpans
import Derived.Test.YtfgglpjmkahphaaGreatDoorHas
import Derived.Deep.QuietTactic
import Derived.BigQuiet
namespace Go.Proofs.YtfgglpjmkahphaaGreatDoor
open Go.RowKit
set_option linter.unusedVariables false
set_option linter.unusedSimpArgs false

set_option maxRecDepth 100000 in
set_option maxHeartbeats 1000000 in
theorem eqSt_is (v1 v2 : Value) (l : List (Int × Int)) (w : World) (S T : Nat → Prop) (h1 : (Rp.sl stRp).ok w S [v1] l) (h2 : (Rp.sl stRp).ok w T [v2] l) :
    Calls Tryz.prog 9 #[v1, v2] w fun e w' => e = .returned (.bool true) ∧ ∃ n, w' = w.drewN n := by
  obtain ⟨A, c, rfl, hl1, hc1, _⟩ := Rp.sl_open h1
  obtain ⟨B, d, rfl, hl2, hc2, _⟩ := Rp.sl_open h2
  unfold maxLen at hc1 hc2
  have H1 := Lib.hid h1
  have H2 := Lib.hid h2
  clear h1 h2
  go_enter Tryz.func9, Tryz.ntmps9
  go_wp2
  go_loopw [13] (fun i wr => ∃ k n : Nat, k ≤ l.length ∧ i = .int .i64 k ∧ wr = w.drewN n) (fun i _ => l.length - (intOf i).toNat)
  case atStart => exact ⟨0, 0, Nat.zero_le _, rfl, rfl⟩
  case round =>
    obtain ⟨k, n, hk, rfl, rfl⟩ := hrel
    by_cases hlt : k < l.length
    · obtain ⟨ad1, c', e1, _, c0, c1⟩ := st_at H1.out hlt
      cases e1
      obtain ⟨ad2, c', e1, _, d0, d1⟩ := st_at H2.out hlt
      cases e1
      generalize l[k] = x at *
      have b0 : (x.1 == x.1) = true := beq_self_eq_true _
      have b1 : (x.2 == x.2) = true := beq_self_eq_true _
      have hm0 : (0 : Int) ≤ (k : Int) := by omega
      have hmL : (k : Int) < (l.length : Int) := by omega
      go_wp2
      go_quiet (fail)
      go_wp2
      go_roundw
      case rel => exact ⟨k + 1, _, by omega, by go_num, rfl⟩
      case measure => simp [intOf]; omega
    · obtain rfl : k = l.length := by omega
      go_wp2
      go_ret
      exact ⟨rfl, _, rfl⟩
def turL (l : List Rgt) : Nat → List Int
  | 0 => [0]
  | k + 1 => turL l k ++ [(l.getD k default).st, (l.getD k default).made, (l.getD k default).en]
theorem turL_len (l : List Rgt) : ∀ k, (turL l k).length = 3 * k + 1
  | 0 => rfl
  | k + 1 => by rw [turL, List.length_append, turL_len l k]; simp; omega
theorem turL_mem (l : List Rgt) (n : Int) : ∀ k, k ≤ l.length → (n ∈ turL l k ↔ n = 0 ∨ ∃ j, ∃ h : j < l.length, j < k ∧ (n = l[j].st ∨ n = l[j].made ∨ n = l[j].en))
  | 0, _ => by
    rw [turL, List.mem_singleton]
    exact ⟨.inl, fun h => h.elim id (fun ⟨j, _, hj, _⟩ => by omega)⟩
  | k + 1, hk => by
    have ih := turL_mem l n k (by omega)
    rw [turL, getD_at l default (show k < l.length by omega), List.mem_append, ih]
    constructor
    · rintro ((h | ⟨j, h1, h2, h3⟩) | h)
      · exact .inl h
      · exact .inr ⟨j, h1, by omega, h3⟩
      · exact .inr ⟨k, by omega, by omega, by simpa using h⟩
    · rintro (h | ⟨j, h1, h2, h3⟩)
      · exact .inl (.inl h)
      · by_cases e : j = k
        · subst e; exact .inr (by simpa using h3)
        · exact .inl (.inr ⟨j, h1, by omega, h3⟩)
def TurnsPost (l : List Rgt) (w : World) (e : Ending) (w' : World) : Prop :=
  ∃ (v : Value) (ts : List Int), e = .returned v ∧ w'.ownsRow w.heap.size 3 1 v ts.length (ts.map (.int .i64)) ∧ ts.Pairwise (· < ·) ∧ (∀ n, n ∈ ts ↔ n = 0 ∨ ∃ r ∈ l, n = r.st ∨ n = r.made ∨ n = r.en) ∧ ts.length ≤ 90000 ∧ Below w.heap.size w w'
theorem tur_mem (l : List Rgt) (n : Int) : n ∈ Lib.compact (srtI (turL l l.length)) ↔ n = 0 ∨ ∃ r ∈ l, n = r.st ∨ n = r.made ∨ n = r.en := by
  rw [(comp_sorted (srtI_sorted _)).1, srtI_mem, turL_mem l n l.length (Nat.le_refl _)]
  constructor
  · rintro (h | ⟨j, h1, _, h3⟩)
    · exact .inl h
    · exact .inr ⟨l[j], List.getElem_mem h1, h3⟩
  · rintro (h | ⟨r, hr, h3⟩)
    · exact .inl h
    · obtain ⟨j, hj, rfl⟩ := List.mem_iff_getElem.1 hr
      exact .inr ⟨j, hj, hj, h3⟩
theorem brk_tur {l : List Rgt} {c : Cap} {n : Int} (h : Brk l c n) : n = 0 ∨ ∃ r ∈ l, n = r.st ∨ n = r.made ∨ n = r.en := by
  obtain ⟨r, hr, _, h1⟩ := h
  refine .inr ⟨r, hr, ?_⟩
  rcases h1 with h1 | h1
  · unfold fromI at h1
    omega
  · exact .inr (.inr h1)
set_option maxRecDepth 100000 in
set_option maxHeartbeats 2000000 in
theorem turns_any (v : Value) (l : List Rgt) (w : World) (h0 : (Rp.sl rgtRp).ok w (· < w.heap.size) [v] l) (hm : l.length ≤ 1000) :
    Calls Tryz.prog 24 #[v] w (TurnsPost l w) := by
  obtain ⟨A, cc, rfl, hl, hc, _⟩ := Rp.sl_open h0
  unfold maxLen at hc
  have H0 := Lib.hid h0
  have HB0 := Lib.hid ((Below.refl w.heap.size w).alloc (Nat.le_refl _) (.cells #[.int .i64 0] 3))
  have HO0 : Hid ((w.alloc (.cells #[.int .i64 0] 3)).ownsRow w.heap.size 3 1 (.slice (some ⟨w.heap.size, 0, none⟩) 1 1) 1 [.int .i64 0]) := Lib.hid (World.ownsRow_lit (size := 1) w #[.int .i64 0] 1 (Nat.le_refl _) (by unfold maxLen; omega) rfl)
  clear h0
  go_enter Tryz.func24, Tryz.ntmps24
  go_wp2_with fail
  generalize w.alloc (.cells #[.int .i64 0] 3) = w0 at *
  go_loopw [3, 9] (fun vo vi wr => ∃ k : Nat, k ≤ l.length ∧ vi = .int .i64 k ∧ Hid (wr.ownsRow w.heap.size 3 1 vo (turL l k).length ((turL l k).map (.int .i64))) ∧ Hid (Below w.heap.size w wr)) (fun _ vi _ => l.length - (intOf vi).toNat)
  case atStart => exact ⟨0, by omega, rfl, HO0, HB0⟩
  case round =>
    clear HO0 HB0
    obtain ⟨k, hk, rfl, HO, HB⟩ := hrel
    obtain ⟨Ao, co, hvo, hco1, hco2, _⟩ := own_form HO.out
    subst hvo
    have hel := turL_len l k
    by_cases hlt : k < l.length
    · obtain ⟨ad, c', e1, hadb, c0, c1, c2, c3, c4, c5, c6, c7, c8, hz⟩ := rgt_at (Rp.below _ H0.out HB.out) hlt
      cases e1
      have HS : Hid (turL l (k + 1) = turL l k ++ [l[k].st, l[k].made, l[k].en]) := Lib.hid (by rw [turL, getD_at _ _ hlt])
      generalize l[k] = x at *
      generalize turL l k = E at *
      have hal := (Below.refl wr.heap.size wr).alloc (Nat.le_refl _) (.cells #[.string (bstr x.id), .string (bstr x.pre), .int .i64 x.frm, .int .i64 x.to, .int .i64 x.st, .int .i64 x.en, .int .i64 x.made, .int .i64 x.kind, .string (bstr x.team)] 78)
      have HB4 := Lib.hid (HB.out.trans (hal.mono HB.out.size))
      have HO4 := Lib.hid (own_below HO.out hal)
      have hkx := Blk.new wr 78 [.string (bstr x.id), .string (bstr x.pre), .int .i64 x.frm, .int .i64 x.to, .int .i64 x.st, .int .i64 x.en, .int .i64 x.made, .int .i64 x.kind, .string (bstr x.team)]
      have x4 : (wr.alloc (.cells #[.string (bstr x.id), .string (bstr x.pre), .int .i64 x.frm, .int .i64 x.to, .int .i64 x.st, .int .i64 x.en, .int .i64 x.made, .int .i64 x.kind, .string (bstr x.team)] 78)).cell? ⟨wr.heap.size, 4, none⟩ = some (.int .i64 x.st) := hkx.cell 4
      have x5 : (wr.alloc (.cells #[.string (bstr x.id), .string (bstr x.pre), .int .i64 x.frm, .int .i64 x.to, .int .i64 x.st, .int .i64 x.en, .int .i64 x.made, .int .i64 x.kind, .string (bstr x.team)] 78)).cell? ⟨wr.heap.size, 5, none⟩ = some (.int .i64 x.en) := hkx.cell 5
      have x6 : (wr.alloc (.cells #[.string (bstr x.id), .string (bstr x.pre), .int .i64 x.frm, .int .i64 x.to, .int .i64 x.st, .int .i64 x.en, .int .i64 x.made, .int .i64 x.kind, .string (bstr x.team)] 78)).cell? ⟨wr.heap.size, 6, none⟩ = some (.int .i64 x.made) := hkx.cell 6
      have heb : E.length ≤ 10000 := by omega
      clear hkx hal hel
      go_wp2_with (at_builtin; go_must (refine app_new (w := wr.alloc (.cells #[.string (bstr x.id), .string (bstr x.pre), .int .i64 x.frm, .int .i64 x.to, .int .i64 x.st, .int .i64 x.en, .int .i64 x.made, .int .i64 x.kind, .string (bstr x.team)] 78)) rfl (.tmp 13) (.tmp 20) 54 rfl 3 (.int .i64 0) 1 8 Tryz.underlying54 int_info rfl (by decide) (m := 3) [.int .i64 x.st, .int .i64 x.made, .int .i64 x.en] HO4.out HB4.out.size rfl (by rw [World.size_alloc]; rfl) rfl (by decide) (by simp [Value.oneCell']) (by unfold maxLen; omega) (by omega) ?_); intro g8 c8 w8 HO8 HG8 HE8 HL8)
      have HB8 := Lib.hid (HB4.out.grown HG8.out HB4.out.size (fun g hg => (HO4.out.lt g hg).1))
      go_roundw
      case rel => first | exact ⟨k + 1, by omega, by go_num, by rw [HS.out, List.length_append, List.map_append]; exact HO8, HB8⟩ | (repeat (apply Exists.intro); (refine And.intro ?_ ?_; rotate_left; (repeat' (first | exact rfl | apply And.intro)); exact ⟨k + 1, by omega, by go_num, by rw [HS.out, List.length_append, List.map_append]; exact HO8, HB8⟩))
      case measure => simp [intOf]; omega
    · obtain rfl : k = l.length := by omega
      generalize hes : turL l l.length = es at *
      have HES := Lib.hid hes
      have HEL : Hid (0 < es.length ∧ es.length ≤ 10000) := Lib.hid (by omega)
      clear hes hel
      go_wp2_with fail
      refine (sortI_any _ es w.heap.size wr HO.out HEL.out.1 (by have := HEL.out; omega)).mono ?_
      rintro e w1 ⟨rfl, ho, hg⟩
      have HO1 := Lib.hid ho
      have HB1 := Lib.hid (HB.out.grown hg HB.out.size (fun g hg => (HO.out.lt g hg).1))
      clear ho hg
      have hsl := srtI_len es
      have HSL := Lib.hid hsl
      rw [hsl] at HO1
      clear hsl
      go_wp2_with fail
      refine (compI_any _ (srtI es) w.heap.size w1 (by rw [HSL.out]; exact HO1.out) (by rw [HSL.out]; exact HEL.out.1) (by rw [HSL.out]; have := HEL.out; omega)).mono ?_
      rintro e w2 ⟨v2, rfl, ho, hg⟩
      have HO2 := Lib.hid ho
      have HB2 := Lib.hid (HB1.out.grown hg HB1.out.size (fun g hg => (HO1.out.lt g hg).1))
      clear ho hg
      have HCL := Lib.hid (comp_len (srtI es))
      go_wp2_with fail
      go_ret
      exact ⟨_, _, rfl, HO2.out, (comp_sorted (srtI_sorted es)).2, fun n => by rw [← HES.out]; exact tur_mem l n, by have h1 := HCL.out; have h2 := HSL.out; have h3 := HEL.out; omega, HB2.out⟩
end Go.Proofs.YtfgglpjmkahphaaGreatDoor
