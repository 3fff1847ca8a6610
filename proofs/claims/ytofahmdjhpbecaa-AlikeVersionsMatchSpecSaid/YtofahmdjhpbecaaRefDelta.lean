/-
  'Delta' of the reference, and of the package.
-/
import Derived.Test.YtofahmdjhpbecaaProg
import Derived.Test.YtofahmdjhpbecaaDelta
namespace Go.Proofs.Ytofahmdjhpbecaa
open Go.RowKit
set_option linter.unusedVariables false
set_option linter.unusedSimpArgs false

set_option maxRecDepth 100000 in
set_option maxHeartbeats 1000000 in
theorem same_any (v1 v2 : Value) (a b : List UInt8) (w : World) (S T : Nat → Prop) (h1 : (Rp.sl Rp.u8).ok w S [v1] a) (h2 : (Rp.sl Rp.u8).ok w T [v2] b) (l1 : a.length ≤ 3000) (l2 : b.length ≤ 3000) :
    Calls Try.prog 63 #[v1, v2] w fun e w' => e = .returned (.int .i64 (lcp a b)) ∧ Drawn w w' := by
  obtain ⟨A, c, rfl, hl1, hc1, _⟩ := Rp.sl_open h1
  obtain ⟨B, d, rfl, hl2, hc2, _⟩ := Rp.sl_open h2
  have H1 := Lib.hid h1
  have H2 := Lib.hid h2
  clear h1 h2
  go_enter Try.func63, Try.ntmps63
  go_wp2
  go_loopw [5] (fun j wr => ∃ n : Nat, n ≤ lcp a b ∧ j = .int .i64 n ∧ Hid (Drawn w wr)) (fun j _ => b.length - (intOf j).toNat)
  case atStart => exact ⟨0, by omega, rfl, Drawn.refl w⟩
  case round =>
    obtain ⟨n, hn, rfl, HW2⟩ := hrel
    have hlb := lcp_le_right a b
    have hla := lcp_le_left a b
    have hst := lcp_step a b n hn
    by_cases hna : n < a.length
    · by_cases hnb : n < b.length
      · obtain ⟨ad1, u1, rfl, _, hu1, hcell1⟩ := Rp.sl_at1 rfl (Rp.drawn _ H1.out HW2.out) hna
        obtain ⟨ad2, u2, rfl, _, hu2, hcell2⟩ := Rp.sl_at1 rfl (Rp.drawn _ H2.out HW2.out) hnb
        cases hu1; cases hu2
        have hst' : n < lcp a b ↔ a[n] = b[n] := by
          rw [hst]
          exact ⟨fun ⟨_, _, h⟩ => h, fun h => ⟨hna, hnb, h⟩⟩
        clear hst
        by_cases he : a[n] = b[n]
        · have hb : ((a[n].toNat : Int) == (b[n].toNat : Int)) = true := by simp [he]
          have hlt2 := hst'.2 he
          clear he hst'
          go_wp2
          have s4 : (n : Int) < a.length := by omega
          have s5 : (n : Int) < b.length := by omega
          go_quiet (fail)
          clear s4 s5
          go_wp2
          go_roundw
          case rel => exact ⟨n + 1, by omega, by go_num, HW2.out.more _⟩
          case measure => simp [intOf]; omega
        · have h9 : ¬ n < lcp a b := fun h => he (hst'.1 h)
          have hb : ((a[n].toNat : Int) == (b[n].toNat : Int)) = false := by
            simp only [beq_eq_false_iff_ne, ne_eq, Int.natCast_inj]; exact fun h => he (UInt8.toNat_inj.1 h)
          have HF : Hid (n = lcp a b) := by show n = _; omega
          clear he hst'
          go_wp2
          have s4 : (n : Int) < a.length := by omega
          have s5 : (n : Int) < b.length := by omega
          go_quiet (fail)
          clear s4 s5
          go_wp2
          go_ret
          exact ⟨by rw [← HF.out]; rfl, HW2.out.more _⟩
      · have HF : Hid (n = lcp a b) := by show n = _; omega
        clear hst
        go_wp2
        have s4 : (n : Int) < a.length := by omega
        have s5 : decide ((n : Int) < b.length) = false := by simp; omega
        go_quiet (fail)
        clear s4 s5
        go_wp2
        go_ret
        exact ⟨by rw [← HF.out]; rfl, HW2.out.more _⟩
    · have HF : Hid (n = lcp a b) := by show n = _; omega
      clear hst
      go_wp2
      have s4 : decide ((n : Int) < a.length) = false := by simp; omega
      go_quiet (fail)
      clear s4
      go_wp2
      go_ret
      exact ⟨by rw [← HF.out]; rfl, HW2.out.more _⟩

/-- The answer of both 'Delta': ErrLarge, or the pieces. -/
def deltaFault (base b : List UInt8) : Int := if 3000 < base.length ∨ 3000 < b.length then 2 else 0
def deltaOut (base b : List UInt8) : List Cp := if 3000 < base.length ∨ 3000 < b.length then [] else deltaL base b
def Delta2Post (base b : List UInt8) (w : World) (e : Ending) (w' : World) : Prop :=
  ∃ v, e = .returned (.tuple #[v, .int .i64 (deltaFault base b)]) ∧ (Rp.sl cpRp).ok w' (· < w'.heap.size) [v] (deltaOut base b) ∧ Below w.heap.size w w'
theorem delta2_bad {base b : List UInt8} {w w' : World} (h : 3000 < base.length ∨ 3000 < b.length) (hb : Below w.heap.size w w') : Delta2Post base b w (.returned (.tuple #[.slice none 0 0, .int .i64 2])) w' :=
  ⟨_, by rw [deltaFault, if_pos h], by rw [deltaOut, if_pos h]; exact Rp.sl_nil _ _ _, hb⟩
theorem delta2_good {base b : List UInt8} {w w' : World} {v : Value} (h1 : base.length ≤ 3000) (h2 : b.length ≤ 3000) (hv : (Rp.sl cpRp).ok w' (· < w'.heap.size) [v] (deltaL base b)) (hb : Below w.heap.size w w') : Delta2Post base b w (.returned (.tuple #[v, .int .i64 0])) w' :=
  ⟨_, by rw [deltaFault, if_neg (by omega)], by rw [deltaOut, if_neg (by omega)]; exact hv, hb⟩

set_option maxRecDepth 100000 in
set_option maxHeartbeats 1000000 in
theorem Delta_any (v1 v2 : Value) (base b : List UInt8) (w : World) (h1 : (Rp.sl Rp.u8).ok w (· < w.heap.size) [v1] base) (h2 : (Rp.sl Rp.u8).ok w (· < w.heap.size) [v2] b) :
    Calls Try.prog 23 #[v1, v2] w (Delta2Post base b w) := by
  obtain ⟨A, c, rfl, hl1, hc1, _⟩ := Rp.sl_open h1
  obtain ⟨B, d, rfl, hl2, hc2, _⟩ := Rp.sl_open h2
  have H1 := Lib.hid h1
  have H2 := Lib.hid h2
  clear h1 h2
  unfold maxLen at hc1 hc2
  by_cases hb : 3000 < base.length
  · have HP := Lib.hid (delta2_bad (base := base) (b := b) (w := w) (w' := w) (.inl hb) (Below.refl _ _))
    go_enter Try.func23, Try.ntmps23
    go_wp2
    go_ret2
    exact HP.out
  · by_cases hb2 : 3000 < b.length
    · have HP := Lib.hid (delta2_bad (base := base) (b := b) (w := w) (w' := w) (.inr hb2) (Below.refl _ _))
      go_enter Try.func23, Try.ntmps23
      go_wp2
      go_ret2
      exact HP.out
    · go_enter Try.func23, Try.ntmps23
      go_wp2_with fail
      refine (delta_any _ _ base b w H1.out H2.out (by omega) (by omega)).mono ?_
      rintro e w1 ⟨v, rfl, hv, hbl⟩
      have HP := Lib.hid (delta2_good (base := base) (b := b) (by omega) (by omega) hv hbl)
      clear hv hbl
      go_wp2
      go_ret2
      exact HP.out

def Delta2PostF (base b : List UInt8) (w : World) (e : Ending) (w' : World) : Prop :=
  ∃ v, e = .returned (.tuple #[v, .int .i64 (deltaFault base b)]) ∧ (Rp.sl cpRp).ok w' (fun k => w.heap.size ≤ k ∧ k < w'.heap.size) [v] (deltaOut base b) ∧ Below w.heap.size w w'
theorem delta2F_bad {base b : List UInt8} {w w' : World} (h : 3000 < base.length ∨ 3000 < b.length) (hb : Below w.heap.size w w') : Delta2PostF base b w (.returned (.tuple #[.slice none 0 0, .int .i64 2])) w' :=
  ⟨_, by rw [deltaFault, if_pos h], by rw [deltaOut, if_pos h]; exact Rp.sl_nil _ _ _, hb⟩
theorem delta2F_good {base b : List UInt8} {w w' : World} {v : Value} (h1 : base.length ≤ 3000) (h2 : b.length ≤ 3000) (hv : (Rp.sl cpRp).ok w' (fun k => w.heap.size ≤ k ∧ k < w'.heap.size) [v] (deltaL base b)) (hb : Below w.heap.size w w') : Delta2PostF base b w (.returned (.tuple #[v, .int .i64 0])) w' :=
  ⟨_, by rw [deltaFault, if_neg (by omega)], by rw [deltaOut, if_neg (by omega)]; exact hv, hb⟩

set_option maxRecDepth 100000 in
set_option maxHeartbeats 2000000 in
theorem refDelta_fresh (v1 v2 : Value) (base b : List UInt8) (w : World) (h1 : (Rp.sl Rp.u8).ok w (· < w.heap.size) [v1] base) (h2 : (Rp.sl Rp.u8).ok w (· < w.heap.size) [v2] b) :
    Calls Try.prog 24 #[v1, v2] w (Delta2PostF base b w) := by
  obtain ⟨A, c, rfl, hl1, hc1, _⟩ := Rp.sl_open h1
  obtain ⟨B, d, rfl, hl2, hc2, _⟩ := Rp.sl_open h2
  have H1 := Lib.hid h1
  have H2 := Lib.hid h2
  clear h1 h2
  unfold maxLen at hc1 hc2
  by_cases hb : 3000 < base.length
  · have HP := Lib.hid (delta2F_bad (base := base) (b := b) (w := w) (w' := w) (.inl hb) (Below.refl _ _))
    go_enter Try.func24, Try.ntmps24
    go_wp2
    go_ret2
    exact HP.out
  by_cases hb2 : 3000 < b.length
  · have HP := Lib.hid (delta2F_bad (base := base) (b := b) (w := w) (w' := w) (.inr hb2) (Below.refl _ _))
    go_enter Try.func24, Try.ntmps24
    go_wp2
    go_ret2
    exact HP.out
  have l1 : base.length ≤ 3000 := by omega
  have l2 : b.length ≤ 3000 := by omega
  go_enter Try.func24, Try.ntmps24
  go_wp2
  go_loopw [6, 7] (fun vo va wr => ∃ (at_ : Nat) (out : List Cp), at_ ≤ b.length ∧ va = .int .i64 at_ ∧ Hid (Nest cpHd cpIn 3 93 5 w.heap.size wr vo out) ∧ Hid (CpSmall (b.length - at_) out) ∧ out.length ≤ at_ ∧ Hid (deltaGo base (b.drop at_) out = deltaL base b) ∧ Hid (Below w.heap.size w wr))
    (fun _ va _ => b.length - (intOf va).toNat)
  case atStart => exact ⟨0, [], by omega, rfl, Nest.nil _, fun c hc => absurd hc (by simp), by simp, rfl, Below.refl _ _⟩
  case round =>
    obtain ⟨p, out, hp, rfl, HN, HS, hol, HG, HB⟩ := hrel
    by_cases hend : p < b.length
    · obtain ⟨x, t, hbs⟩ : ∃ x t, b.drop p = x :: t := List.exists_cons_of_ne_nil (fun e => by have := congrArg List.length e; simp at this; omega)
      have hxl : t.length + 1 + p = b.length := by have := congrArg List.length hbs; simp at this; omega
      have hx : b[p] = x := by rw [List.drop_eq_getElem_cons hend] at hbs; injection hbs
      have htl : b.drop (p + 1) = t := by rw [List.drop_eq_getElem_cons hend] at hbs; injection hbs
      have HBS := Lib.hid hbs
      have HX := Lib.hid hx
      have HTL := Lib.hid htl
      clear hbs hx htl
      obtain ⟨wo, rfl⟩ : ∃ wo : World, wo = wr := ⟨_, rfl⟩
      go_wp2
      go_loopw [8, 9, 27] (fun m f i wr => ∃ k : Nat, k ≤ base.length ∧ i = .int .i64 k ∧ f = .int .i64 (longK base (b.drop p) k).1 ∧ m = .int .i64 (longK base (b.drop p) k).2 ∧ Hid (Drawn wo wr)) (fun _ _ i _ => base.length - (intOf i).toNat)
      case atStart => exact ⟨0, by omega, rfl, rfl, rfl, Drawn.refl wo⟩
      case round =>
        obtain ⟨k, hk, rfl, rfl, rfl, HW⟩ := hrel
        by_cases hlt : k < base.length
        · have hll : lcp (base.drop k) (b.drop p) ≤ b.length := by have := lcp_le_right (base.drop k) (b.drop p); rw [List.length_drop] at this; omega
          have HK1 : Hid (longK base (b.drop p) (k + 1) = if (longK base (b.drop p) k).2 < lcp (base.drop k) (b.drop p) then (k, lcp (base.drop k) (b.drop p)) else longK base (b.drop p) k) := by show longK base (b.drop p) (k + 1) = _; rw [longK]
          have W1 := Rp.drawn _ (Rp.below _ H1.out HB.out) HW.out
          have W2 := Rp.drawn _ (Rp.below _ H2.out HB.out) HW.out
          obtain ⟨ad1, _, rfl, _⟩ := Rp.sl_at1 rfl W1 hlt
          obtain ⟨ad2, _, rfl, _⟩ := Rp.sl_at1 rfl W2 hend
          have E1 := Lib.hid (Rp.sl_drop1 rfl W1 (lo := k) (by omega))
          have E2 := Lib.hid (Rp.sl_drop1 rfl W2 (lo := p) (by omega))
          rw [if_neg (by omega), Option.map_some] at E1 E2
          clear W1 W2
          have HL := Lib.hid (longK_fst base (b.drop p) k)
          generalize hpp : longK base (b.drop p) k = pq at *
          obtain ⟨p1, p2⟩ := pq
          clear hpp
          go_wp2
          have s6 : ¬ c = k := by omega
          have s7 : ¬ d = p := by omega
          go_quiet ((go_at_call 63; exact Calls.quiet_of (same_any _ _ _ _ _ _ _ (Rp.drewN _ E1.out _) (Rp.drewN _ E2.out _) (by rw [List.length_drop]; omega) (by rw [List.length_drop]; omega))))
          clear s6 s7
          by_cases hp2 : p2 < lcp (base.drop k) (b.drop p)
          · have HQ : Hid (longK base (b.drop p) (k + 1) = (k, lcp (base.drop k) (b.drop p))) := by show longK base (b.drop p) (k + 1) = _; rw [HK1.out, if_pos hp2]
            generalize lcp (base.drop k) (b.drop p) = n at *
            go_wp2
            go_roundw
            case rel => exact ⟨k + 1, by omega, by go_num, by rw [HQ.out], by rw [HQ.out], HW.out.more _⟩
            case measure => simp [intOf]; omega
          · have HQ : Hid (longK base (b.drop p) (k + 1) = (p1, p2)) := by show longK base (b.drop p) (k + 1) = _; rw [HK1.out, if_neg hp2]
            generalize lcp (base.drop k) (b.drop p) = n at *
            go_wp2
            go_roundw
            case rel => exact ⟨k + 1, by omega, by go_num, by rw [HQ.out], by rw [HQ.out], HW.out.more _⟩
            case measure => simp [intOf]; omega
        · have hke : k = base.length := by omega
          subst hke
          have hle := longest_le base (b.drop p)
          change (longK base (b.drop p) base.length).1 ≤ base.length ∧ (longK base (b.drop p) base.length).2 ≤ (b.drop p).length at hle
          rw [List.length_drop] at hle
          by_cases h8 : 8 ≤ (longK base (b.drop p) base.length).2
          · have HC : Hid (deltaGo base (b.drop p) out = deltaGo base ((b.drop p).drop (longK base (b.drop p) base.length).2) (out ++ [⟨(longK base (b.drop p) base.length).1, (longK base (b.drop p) base.length).2, []⟩])) := deltaGo_copy (by rw [HBS.out]; simp) h8
            generalize hpp : longK base (b.drop p) base.length = pq at *
            obtain ⟨p1, p2⟩ := pq
            clear hpp
            obtain ⟨xs, hown, hpush⟩ := Nest.open_ (by decide) (HN.out.grown (World.grownBy.refl _ _))
            have HO := Lib.hid (HW.out.own hown)
            have HPU := Lib.hid hpush
            clear hown hpush
            have hB1 : w.heap.size ≤ wr.heap.size := by rw [HW.out.size]; exact HB.out.size
            go_wp2_with (at_builtin; go_must (refine app_new (w := wr) rfl (.tmp 45) (.tmp 49) 40 rfl 93 (.agg #[.int .i64 0, .int .i64 0, .slice none 0 0]) 3 40 Try.underlying40 copy_info rfl (by decide) (m := 1) [.int .i64 p1, .int .i64 p2, .slice none 0 0] HO.out hB1 rfl rfl rfl (by decide) (by simp [Value.oneCell']) (by unfold maxLen; omega) (by omega) ?_); intro g1 cc1 w2 HO1 HG1 HB2 HL1)
            go_roundw
            case rel =>
              refine ⟨p + p2, out ++ [⟨p1, p2, []⟩], by omega, by go_num, ?_, ?_, by rw [List.length_append, List.length_singleton]; omega, by rw [← HG.out]; show deltaGo base (b.drop (p + p2)) _ = _; rw [← List.drop_drop]; exact HC.out.symm, HB2.out _ (HW.out.below HB.out)⟩
              · exact HPU.out wr w2 _ ⟨p1, p2, []⟩ (.slice none 0 0) (HW.out.grown _) (World.ownsRow_nil _ _ _ _) (fun g hg => by cases hg) HG1.out HO1.out
              · intro cp hcp
                rcases List.mem_append.1 hcp with h | h
                · have := HS.out cp h; omega
                · rw [List.mem_singleton.1 h]; simp; omega
            case measure => simp [intOf]; omega
          · have HC : Hid (deltaGo base (b.drop p) out = deltaGo base (b.drop (p + 1)) (addByte out x)) := by
              show deltaGo base (b.drop p) out = _
              have := deltaGo_byte (base := base) (x := x) (t := t) (out := out) (by rw [← HBS.out]; exact h8)
              rw [HTL.out, ← this, HBS.out]
            generalize hpp : longK base (b.drop p) base.length = pq at *
            obtain ⟨p1, p2⟩ := pq
            clear hpp
            obtain ⟨ad, u, rfl, _, hu, hcell⟩ := Rp.sl_at1 rfl (Rp.drawn _ (Rp.below _ H2.out HB.out) HW.out) hend
            have hu' : u = .int .u8 b[p].toNat := by injection hu
            subst hu'
            clear hu
            have HN1 : Hid (Nest cpHd cpIn 3 93 5 w.heap.size wr u6 out) := HN.out.grown (HW.out.grown none)
            have hB1 : w.heap.size ≤ wr.heap.size := by rw [HW.out.size]; exact HB.out.size
            by_cases hfresh : out = [] ∨ ∃ init cp, out = init ++ [cp] ∧ cp.n ≠ 0
            · have HCB : Hid (addByte out x = out ++ [⟨0, 0, [x]⟩]) := by
                rcases hfresh with rfl | ⟨init, cp, rfl, hn0⟩
                · rfl
                · exact addByte_copy init cp x hn0
              obtain ⟨xs, hown, hpush⟩ := Nest.open_ (by decide) HN1.out
              have HO := Lib.hid hown
              have HPU := Lib.hid hpush
              obtain ⟨A5, c5, rfl, hn5, hc5, _⟩ := own_form hown
              have hguard : out.length = 0 ∨ (0 < out.length ∧ ∃ (G : Nat) (n : Int), A5 = some ⟨G, 0, none⟩ ∧ wr.cell? ⟨G, (out.length - 1) * 3 + 1, none⟩ = some (.int .i64 n) ∧ (n == 0) = false) := by
                rcases hfresh with rfl | ⟨init, cp, rfl, hn0⟩
                · exact .inl rfl
                · right
                  obtain ⟨G, gc, ub, e, hG1, hG2, hub, hne, hhd, hlast, hfr, hset⟩ := Nest.last (hd := cpHd) (inn := cpIn) (fun _ => rfl) (by decide) HN1.out
                  injection e with e
                  refine ⟨by simp, G, cp.n, e, ?_, by simpa using hn0⟩
                  rw [List.length_append, List.length_singleton, Nat.add_sub_cancel]
                  exact hhd 1 _ rfl
              clear hown hpush hfresh
              have done : ∀ (w2 : World) (g cc : Nat), (wr.alloc (.cells #[.int .u8 b[p].toNat] 5)).grownBy w2 (Value.slice A5 out.length c5).ownBlock → w2.ownsRow w.heap.size 93 3 (.slice (some ⟨g, 0, none⟩) (out.length + 1) cc) (out.length + 1) (xs ++ [.int .i64 0, .int .i64 0, .slice (some ⟨wr.heap.size, 0, none⟩) 1 1]) →
                  (∀ w0, Below w.heap.size w0 (wr.alloc (.cells #[.int .u8 b[p].toNat] 5)) → Below w.heap.size w0 w2) →
                  ∃ (q : Nat) (out' : List Cp), q ≤ b.length ∧ Value.int .i64 ((p : Int) + 1) = .int .i64 q ∧ Hid (Nest cpHd cpIn 3 93 5 w.heap.size w2 (.slice (some ⟨g, 0, none⟩) (out.length + 1) cc) out') ∧ Hid (CpSmall (b.length - q) out') ∧ out'.length ≤ q ∧ Hid (deltaGo base (b.drop q) out' = deltaL base b) ∧ Hid (Below w.heap.size w w2) := by
                intro w2 g cc hg hown hbel
                refine ⟨p + 1, out ++ [⟨0, 0, [x]⟩], by omega, by go_num, ?_, ?_, by rw [List.length_append, List.length_singleton]; omega, ?_, ?_⟩
                · rw [HX.out] at hg
                  exact HPU.out _ w2 _ ⟨0, 0, [x]⟩ _ (World.grownBy_alloc wr _ none) (own_lit hB1 _ [.int .u8 x.toNat] (by simp [maxLen])) (fun g hg => Nat.le_of_eq (Option.some.inj hg)) hg hown
                · intro cp hcp
                  rcases List.mem_append.1 hcp with h | h
                  · have := HS.out cp h; omega
                  · rw [List.mem_singleton.1 h]; simp; omega
                · rw [← HCB.out, ← HG.out]; exact HC.out.symm
                · exact hbel _ ((HW.out.below HB.out).alloc hB1 _)
              have HDN := Lib.hid done
              clear done
              rcases hguard with h0 | ⟨h0, G, n, rfl, hcn, hn0⟩
              · simp only [h0] at hol HO HDN ⊢
                go_wp2_with (at_builtin; go_must (refine app_new (w := wr.alloc (.cells #[.int .u8 b[p].toNat] 5)) rfl (.tmp 84) (.tmp 91) 40 rfl 93 (.agg #[.int .i64 0, .int .i64 0, .slice none 0 0]) 3 40 Try.underlying40 copy_info rfl (by decide) (m := 1) [.int .i64 0, .int .i64 0, .slice (some ⟨wr.heap.size, 0, none⟩) 1 1] (HO.out.alloc _) (by simp; omega) rfl (by rw [World.size_alloc]; rfl) rfl (by decide) (by simp [Value.oneCell']) (by unfold maxLen; omega) (by omega) ?_); intro g1 cc1 w2 HO1 HG1 HB2 HL1)
                go_roundw
                case rel => exact HDN.out w2 g1 cc1 HG1.out HO1.out HB2.out
                case measure => simp [intOf]; omega
              · obtain ⟨k, hk⟩ : ∃ k, out.length = k + 1 := ⟨out.length - 1, by omega⟩
                rw [show out.length - 1 = k by omega] at hcn
                simp only [hk] at hol HO HDN ⊢
                have hk3 : (k : Int) ≤ 3000 := by omega
                go_wp2_with (at_builtin; go_must (refine app_new (w := wr.alloc (.cells #[.int .u8 b[p].toNat] 5)) rfl (.tmp 84) (.tmp 91) 40 rfl 93 (.agg #[.int .i64 0, .int .i64 0, .slice none 0 0]) 3 40 Try.underlying40 copy_info rfl (by decide) (m := 1) [.int .i64 0, .int .i64 0, .slice (some ⟨wr.heap.size, 0, none⟩) 1 1] (HO.out.alloc _) (by simp; omega) rfl (by rw [World.size_alloc]; rfl) rfl (by decide) (by simp [Value.oneCell']) (by unfold maxLen; omega) (by omega) ?_); intro g1 cc1 w2 HO1 HG1 HB2 HL1)
                go_roundw
                case rel => exact HDN.out w2 g1 cc1 HG1.out HO1.out HB2.out
                case measure => simp [intOf]; omega
            · obtain ⟨init, cp, rfl⟩ : ∃ init cp, out = init ++ [cp] := ⟨_, _, (List.dropLast_concat_getLast (fun h => hfresh (.inl h))).symm⟩
              have hn0 : cp.n = 0 := Classical.not_not.1 fun h => hfresh (.inr ⟨init, cp, rfl, h⟩)
              clear hfresh
              have HCB := Lib.hid (addByte_zero init cp x hn0)
              obtain ⟨G, gc, ub, rfl, hG1, hG2, hub, hne, hhd, hlast, hfr, hset⟩ := Nest.last (hd := cpHd) (inn := cpIn) (fun _ => rfl) (by decide) HN1.out
              have hcn : wr.cell? ⟨G, init.length * 3 + 1, none⟩ = some (.int .i64 0) := by rw [← hn0]; exact hhd 1 _ rfl
              have hcl : wr.cell? ⟨G, init.length * 3 + 2, none⟩ = some ub := hlast
              have HU := Lib.hid hub
              have HSET := Lib.hid hset
              have HFR := Lib.hid hfr
              have HNE2 := Lib.hid hne
              have hcpl := (HS.out cp (by simp)).2.2.2.2
              have hinl : (cpIn cp).length = cp.bs.length := by simp [cpIn]
              have HINL := Lib.hid hinl
              simp only [List.length_append, List.length_cons, List.length_nil] at hol hcpl
              have hk3 : (init.length : Int) ≤ 3000 := by omega
              clear hub hset hfr hne hhd hlast hn0 hinl
              have done : ∀ (w2 : World) (g cc : Nat), w2.ownsRow w.heap.size 5 1 (.slice (some ⟨g, 0, none⟩) ((cpIn cp).length + 1) cc) ((cpIn cp).length + 1) (cpIn cp ++ [.int .u8 b[p].toNat]) → wr.grownBy w2 ub.ownBlock → (∀ w0, Below w.heap.size w0 wr → Below w.heap.size w0 w2) → (ub.ownBlock = some g ∨ wr.heap.size ≤ g) →
                  ∃ (q : Nat) (out' : List Cp), q ≤ b.length ∧ Value.int .i64 ((p : Int) + 1) = .int .i64 q ∧
                    Hid (Nest cpHd cpIn 3 93 5 w.heap.size (w2.setCell ⟨G, init.length * 3 + 2, none⟩ (.slice (some ⟨g, 0, none⟩) ((cpIn cp).length + 1) cc)) (.slice (some ⟨G, 0, none⟩) (init.length + 1) gc) out') ∧ Hid (CpSmall (b.length - q) out') ∧ out'.length ≤ q ∧
                    Hid (deltaGo base (b.drop q) out' = deltaL base b) ∧ Hid (Below w.heap.size w (w2.setCell ⟨G, init.length * 3 + 2, none⟩ (.slice (some ⟨g, 0, none⟩) ((cpIn cp).length + 1) cc))) := by
                intro w2 g cc hown hg hbel hloc
                have e : cpIn ⟨cp.frm, cp.n, cp.bs ++ [x]⟩ = cpIn cp ++ [.int .u8 x.toNat] := by simp [cpIn]
                refine ⟨p + 1, init ++ [⟨cp.frm, cp.n, cp.bs ++ [x]⟩], by omega, by go_num, ?_, ?_, by rw [List.length_append, List.length_singleton]; omega, ?_, (hbel _ (HW.out.below HB.out)).setCell hG1 _⟩
                · refine HSET.out w2 _ ⟨cp.frm, cp.n, cp.bs ++ [x]⟩ rfl ?_ hg ?_
                  · rw [e, List.length_append, List.length_singleton]; rw [HX.out] at hown; exact hown
                  · rcases hloc with h | h
                    · exact .inl h.symm
                    · exact .inr ⟨g, rfl, h⟩
                · intro cq hcq
                  rcases List.mem_append.1 hcq with h | h
                  · have := HS.out cq (List.mem_append_left _ h); omega
                  · have := HS.out cp (by simp)
                    rw [List.mem_singleton.1 h]; simp only [List.length_append, List.length_cons, List.length_nil] at this ⊢; omega
                · rw [← HCB.out, ← HG.out]; exact HC.out.symm
              have HDN := Lib.hid done
              clear done
              go_wp2
              have hlt1 : (init.length : Int) < (init.length : Int) + 1 := by omega
              have hlt2 : (0 : Int) ≤ p ∧ (p : Int) < b.length := by omega
              have s1 : IntKind.i64.wrap ((init.length : Int) + 1 - 1) = init.length := by rw [Int.add_sub_cancel]; exact IntWalk.i64_in _ (by omega)
              have s2 : IntKind.i64.wrap (init.length : Int) = init.length := IntWalk.i64_in _ (by omega)
              go_region_law (refine step_app_new (w := wr) (by rfl) (.tmp 75) (.tmp 80) 22 (by rfl) 5 (.int .u8 0) 1 1 Try.underlying22 uint8_info rfl (by decide) (m := 1) [.int .u8 b[p].toNat] 1 (by rfl) HU.out hB1 (by rfl) (by rfl) (by rfl) (by decide) (by simp [Value.oneCell']) (by have := HINL.out; unfold maxLen; omega) (by have := HINL.out; omega) ?_; intro g1 cc1 w2 HO1 HG1 HB2 HL1; have hc2 : w2.cell? ⟨G, init.length * 3 + 2, none⟩ = some ub := (World.cell?_of_block (HG1.out.block G hG2 (fun e => HNE2.out e.symm))).trans hcl; have hf2 := HFR.out w2 (HG1.out.block G hG2 (fun e => HNE2.out e.symm)) (init.length * 3 + 2))
              go_wp2
              all_goals go_roundw
              all_goals first
                | exact HDN.out _ _ _ HO1.out HG1.out HB2.out HL1.out
                | (simp [intOf]; omega)
    · have hpe : p = b.length := by omega
      have hz : b.drop p = [] := by rw [hpe]; exact List.drop_length
      have HD : Hid (out = deltaL base b) := by have := HG.out; rw [hz, deltaGo] at this; exact this
      have HF := Lib.hid (delta2F_good (base := base) (b := b) (v := u6) l1 l2 (by rw [← HD.out]; exact nest_cpF HN.out HS.out) HB.out)
      clear hz hpe
      go_wp2
      go_ret2
      exact HF.out
theorem refDelta_any (v1 v2 : Value) (base b : List UInt8) (w : World) (h1 : (Rp.sl Rp.u8).ok w (· < w.heap.size) [v1] base) (h2 : (Rp.sl Rp.u8).ok w (· < w.heap.size) [v2] b) :
    Calls Try.prog 24 #[v1, v2] w (Delta2Post base b w) :=
  (refDelta_fresh v1 v2 base b w h1 h2).mono fun e w' ⟨v, h1, h2, h3⟩ => ⟨v, h1, Rp.sub _ h2 (fun k hk => hk.2), h3⟩
end Go.Proofs.Ytofahmdjhpbecaa
