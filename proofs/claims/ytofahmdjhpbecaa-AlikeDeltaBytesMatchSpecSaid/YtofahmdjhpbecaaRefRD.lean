/-
  'ReadDelta' of the reference.
-/
import Derived.Test.YtofahmdjhpbecaaProg
import Derived.Test.YtofahmdjhpbecaaReadD
namespace Go.Proofs.Ytofahmdjhpbecaa
open Go.RowKit
set_option linter.unusedVariables false
set_option linter.unusedSimpArgs false

theorem add_val {a b x : Nat} (ha : a < 256) (hb : b < 256) (hx : x = a * 256 + b) : Hid (wrap64 ((a : Int) * 256 + wrap64 (b : Int)) = (x : Int) ∧ wrap64 (wrap64 (wrap64 (a : Int) * 256) + wrap64 (b : Int)) = (x : Int)) := by
  show _ ∧ _
  rw [IntWalk.wrap64_in (b : Int) ⟨by omega, by omega⟩, IntWalk.wrap64_in (a : Int) ⟨by omega, by omega⟩, IntWalk.wrap64_in ((a : Int) * 256) ⟨by omega, by omega⟩, IntWalk.wrap64_in _ ⟨by omega, by omega⟩]
  omega
theorem bad_one (x1 x2 : Nat) : cpBad ⟨x1, x2, []⟩ = decide (x2 = 0 ∨ 3000 < x2 ∨ 3000 < x1) := by
  unfold cpBad cpGood
  apply decide_eq_decide.2
  simp; omega
theorem bad_two (bs : List UInt8) : cpBad ⟨0, 0, bs⟩ = decide (bs.length = 0 ∨ 3000 < bs.length) := by
  unfold cpBad cpGood
  apply decide_eq_decide.2
  simp
set_option maxRecDepth 100000 in
set_option maxHeartbeats 4000000 in
theorem refReadDelta_any (v : Value) (bs : List UInt8) (w : World) (h : (Rp.sl Rp.u8).ok w (· < w.heap.size) [v] bs) :
    Calls Try.prog 44 #[v] w (RdPost bs w) := by
  obtain ⟨A, c, rfl, hl, hc, _⟩ := Rp.sl_open h
  unfold maxLen at hc
  have H := Lib.hid h
  clear h
  by_cases hbig : 20000 < bs.length
  · have HP := Lib.hid (rdPost_large (w := w) (w' := w) hbig (Below.refl _ _))
    go_enter Try.func44, Try.ntmps44
    go_wp2
    go_ret3
    exact HP.out
  go_enter Try.func44, Try.ntmps44
  go_wp2
  go_loopw [5, 6, 7] (fun vo vb va wr => ∃ (p : Nat) (l : List Cp) (bad : Bool), p ≤ bs.length ∧ va = .int .i64 p ∧ vb = .bool bad ∧ Hid (l.any cpBad = bad) ∧ Hid (Rows cpRp 93 w.heap.size wr vo l) ∧ Hid (rdGo (bs.drop p) l = rdGo bs []) ∧ l.length ≤ p ∧ Hid (Below w.heap.size w wr))
    (fun _ _ va _ => bs.length - (intOf va).toNat)
  case atStart => exact ⟨0, [], false, by omega, rfl, rfl, rfl, Rows.nil _ _ _ _, rfl, by simp, Below.refl _ _⟩
  case round =>
    obtain ⟨p, l, bad, hp, rfl, rfl, HBD, HR, HG, hll, HB⟩ := hrel
    have hwsz := HB.out.size
    by_cases hlt : p < bs.length
    · have hne : bs.drop p ≠ [] := fun e => by have := congrArg List.length e; simp at this; omega
      have HRD := Lib.hid (Rp.below _ H.out HB.out)
      obtain ⟨ad, u0, rfl, _, hu0, d0⟩ := Rp.sl_at1 rfl HRD.out hlt
      injection hu0 with hu0
      subst hu0
      have hpi : (p : Int) < (bs.length : Int) := by omega
      have HSH : Hid (rcL (bs.drop p) = .short → ∀ w', Below w.heap.size w w' → RdPost bs w (.returned (.tuple #[.slice none 0 0, .int .i64 (bs.length : Nat), .int .i64 10])) w') := fun hrc w' hb => rdPost_err (r := 0) hbig (by rw [← HG.out, rdGo_short hne hrc]) hb
      have HNX : Hid (∀ cp n, rcL (bs.drop p) = .ok cp n → rdGo (bs.drop (p + n)) (l ++ [cp]) = rdGo bs []) := fun cp n hrc => by
        have := rdGo_ok (out := l) hne hrc
        rw [List.drop_drop] at this
        rw [← this]; exact HG.out
      obtain ⟨A5, c5, rfl, hn5, hc5, hown5⟩ := HR.out.form
      unfold maxLen at hc5
      by_cases h1 : bs[p] = 1
      · have b1 : ((bs[p].toNat : Int) == 1) = true := u8_int (n := 1) (by decide) h1
        have b1n : ((bs[p].toNat : Int) != 1) = false := by simp only [bne, b1]; rfl
        by_cases h5 : bs.length < p + 5
        · have HS := Lib.hid (HSH.out (rc_one_short hlt h1 h5))
          have h5' : (bs.length : Int) - (p : Int) < 5 := by omega
          clear h1 h5
          go_wp2
          go_ret3
          exact HS.out _ HB.out
        · have HS := Lib.hid (HNX.out _ _ (rc_one_ok hlt h1 (by omega)))
          have h5' : ¬ ((bs.length : Int) - (p : Int) < 5) := by omega
          have h5i : p + 5 ≤ bs.length := by omega
          clear h1 h5
          obtain ⟨ad2, u1, e1, _, hu1, d1⟩ := Rp.sl_at1 rfl HRD.out (k := p + 1) (by omega)
          injection e1 with e1
          subst e1
          injection hu1 with hu1
          subst hu1
          obtain ⟨ad2, u2, e2, _, hu2, d2⟩ := Rp.sl_at1 rfl HRD.out (k := p + 2) (by omega)
          injection e2 with e2
          subst e2
          injection hu2 with hu2
          subst hu2
          rw [add_succ'] at d1 d2
          obtain ⟨ad4, u3, e3, _, hu3, d3⟩ := Rp.sl_at1 rfl HRD.out (k := p + 3) (by omega)
          injection e3 with e3
          subst e3
          injection hu3 with hu3
          subst hu3
          obtain ⟨ad4, u4, e4, _, hu4, d4⟩ := Rp.sl_at1 rfl HRD.out (k := p + 4) (by omega)
          injection e4 with e4
          subst e4
          injection hu4 with hu4
          subst hu4
          rw [add_succ'] at d3 d4
          have i1 : (p : Int) + 1 < (bs.length : Int) := by omega
          have i2 : (p : Int) + 2 < (bs.length : Int) := by omega
          have j1 : (0 : Int) ≤ (p : Int) + 1 := by omega
          have j2 : (0 : Int) ≤ (p : Int) + 2 := by omega
          have n1 : ((p : Int) + 1).toNat = p + 1 := by omega
          have n2 : ((p : Int) + 2).toNat = p + 2 := by omega
          have s1 : IntKind.i64.wrap ((p : Int) + 1) = (p : Int) + 1 := IntWalk.i64_in _ (by omega)
          have s2 : IntKind.i64.wrap ((p : Int) + 2) = (p : Int) + 2 := IntWalk.i64_in _ (by omega)
          have i3 : (p : Int) + 3 < (bs.length : Int) := by omega
          have i4 : (p : Int) + 4 < (bs.length : Int) := by omega
          have j3 : (0 : Int) ≤ (p : Int) + 3 := by omega
          have j4 : (0 : Int) ≤ (p : Int) + 4 := by omega
          have n3 : ((p : Int) + 3).toNat = p + 3 := by omega
          have n4 : ((p : Int) + 4).toNat = p + 4 := by omega
          have s3 : IntKind.i64.wrap ((p : Int) + 3) = (p : Int) + 3 := IntWalk.i64_in _ (by omega)
          have s4 : IntKind.i64.wrap ((p : Int) + 4) = (p : Int) + 4 := IntWalk.i64_in _ (by omega)
          have g1 := getB_at (bs := bs) (i := p + 1) (by omega)
          have g3 := getB_at (bs := bs) (i := p + 3) (by omega)
          have l1 := getB_lt bs (p + 1)
          have l3 := getB_lt bs (p + 3)
          generalize getB bs (p + 1) = x1 at *
          generalize getB bs (p + 3) = x2 at *
          have HV1 := add_val (UInt8.toNat_lt _) (UInt8.toNat_lt _) g1
          have HV3 := add_val (UInt8.toNat_lt _) (UInt8.toNat_lt _) g3
          clear g1 g3
          go_wp2
          go_quiet (fail)
          first | rw [HV1.out.1] | rw [HV1.out.2]
          have HB1 := Lib.hid (below_drewN HB.out nq)
          have HR1 := Lib.hid (HR.out.kept (below_grown (below_drewN (Below.refl _ _) nq)))
          have d0 : (wr.drewN nq).cell? _ = _ := d0
          have d3 : (wr.drewN nq).cell? _ = _ := d3
          have d4 : (wr.drewN nq).cell? _ = _ := d4
          generalize wr.drewN nq = wq at *
          go_wp2
          go_quiet (fail)
          first | rw [HV3.out.1] | rw [HV3.out.2]
          clear HV1 HV3 i1 i2 i3 i4 j1 j2 j3 j4 n1 n2 n3 n4 s1 s2 s3 s4 d0 d1 d2 d3 d4
          have HB2 := Lib.hid (below_drewN HB1.out nq)
          have HR2 := Lib.hid (HR1.out.kept (below_grown (below_drewN (Below.refl _ _) nq)))
          generalize wq.drewN nq = wz at *
          obtain ⟨xs, hown, hpush⟩ := HR2.out.open_ (by decide)
          have HO := Lib.hid hown
          have hwf1 : (Lit.int .i64 (x1 : Int)).wf = true := WalkArith.wf_i64 (by omega)
          have hwf2 : (Lit.int .i64 (x2 : Int)).wf = true := WalkArith.wf_i64 (by omega)
          have hcp : cpRp.ok wz (fun b => b < wz.heap.size ∧ (Value.slice A5 l.length c5).ownBlock ≠ some b) [.int .i64 x1, .int .i64 x2, .slice none 0 0] ⟨x1, x2, []⟩ := cp_mk (c := ⟨x1, x2, []⟩) hwf1 hwf2 (Rp.sl_nil _ _ _)
          have HDONE : Hid (∀ (w2 : World) (g cc : Nat), wz.grownBy w2 (Value.slice A5 l.length c5).ownBlock → w2.ownsRow w.heap.size 93 3 (.slice (some ⟨g, 0, none⟩) (l.length + 1) cc) (l.length + 1) (xs ++ [.int .i64 x1, .int .i64 x2, .slice none 0 0]) →
            ((Value.slice A5 l.length c5).ownBlock = some g ∨ wz.heap.size ≤ g) → Rows cpRp 93 w.heap.size w2 (.slice (some ⟨g, 0, none⟩) (l.length + 1) cc) (l ++ [⟨x1, x2, []⟩])) := fun w2 g cc h2 h3 h4 =>
            hpush wz w2 g cc _ _ (below_grown (Below.refl _ _)) hcp h2 h3 h4
          have hany := any_snoc l ⟨x1, x2, []⟩
          rw [HBD.out, bad_one] at hany
          have hws2 := HB2.out.size
          clear hown hpush hcp hown5 hwf1 hwf2
          have key : ∃ r : Bool, Hid ((bad || decide (x2 = 0 ∨ 3000 < x2 ∨ 3000 < x1)) = r) ∧ ((bad = true ∧ r = true) ∨ (bad = false ∧ r = true ∧ ((x2 : Int) == 0) = true) ∨ (bad = false ∧ r = true ∧ ((x2 : Int) == 0) = false ∧ 3000 < x2) ∨ (bad = false ∧ r = true ∧ ((x2 : Int) == 0) = false ∧ x2 ≤ 3000 ∧ 3000 < x1) ∨ (bad = false ∧ r = false ∧ ((x2 : Int) == 0) = false ∧ x2 ≤ 3000 ∧ x1 ≤ 3000)) := by
            refine ⟨_, rfl, ?_⟩
            cases bad
            · by_cases q0 : x2 = 0
              · simp [q0]
              · by_cases q1 : 3000 < x2
                · simp [q0, q1]
                · by_cases q2 : 3000 < x1
                  · simp [q0, q1, q2]; omega
                  · simp [q0, q1, q2]; omega
            · simp
          obtain ⟨r, HR9, key⟩ := key
          rw [HR9.out] at hany
          have HANY := Lib.hid hany
          clear hany HR9
          rcases key with ⟨rfl, rfl⟩ | ⟨rfl, rfl, q0⟩ | ⟨rfl, rfl, q0, q1⟩ | ⟨rfl, rfl, q0, q1, q2⟩ | ⟨rfl, rfl, q0, q1, q2⟩
          all_goals
            go_wp2_with (at_builtin; refine app_new (w := wz) rfl (.tmp 90) (.tmp 94) 40 rfl 93 (.agg #[.int .i64 0, .int .i64 0, .slice none 0 0]) 3 40 Try.underlying40 copy_info rfl (by decide) (m := 1) [.int .i64 x1, .int .i64 x2, .slice none 0 0] HO.out (by omega) rfl rfl rfl (by decide) (by simp [Value.oneCell']) (by unfold maxLen; omega) (by omega) ?_; intro g1 cc1 w2 HO1 HG1 HB9 HL1)
            go_roundw
            case rel => exact ⟨p + 5, l ++ [(⟨(x1 : Int), (x2 : Int), []⟩ : Cp)], _, by omega, by go_num, (by first | rfl | (simp; omega)), HANY, Lib.hid (HDONE.out w2 g1 cc1 HG1.out HO1.out HL1.out), HS, by simp; omega, HB9.out _ HB2.out⟩
            case measure => simp [intOf]; omega
      · by_cases h2 : bs[p] = 2
        · have b1 : ((bs[p].toNat : Int) == 1) = false := u8_int_ne (n := 1) h1
          have b2 : ((bs[p].toNat : Int) == 2) = true := u8_int (n := 2) (by decide) h2
          have b1n : ((bs[p].toNat : Int) != 1) = true := by rw [bne, b1]; rfl
          have b2n : ((bs[p].toNat : Int) != 2) = false := by rw [bne, b2]; rfl
          by_cases h3 : bs.length < p + 3
          · have HS := Lib.hid (HSH.out (rc_two_short hlt h2 h3))
            have h5' : (bs.length : Int) - (p : Int) < 3 := by omega
            clear h1 h2 h3
            go_wp2
            go_ret3
            exact HS.out _ HB.out
          have h5' : ¬ ((bs.length : Int) - (p : Int) < 3) := by omega
          have h3i : p + 3 ≤ bs.length := by omega
          obtain ⟨ad2, u1, e1, _, hu1, d1⟩ := Rp.sl_at1 rfl HRD.out (k := p + 1) (by omega)
          injection e1 with e1
          subst e1
          injection hu1 with hu1
          subst hu1
          obtain ⟨ad2, u2, e2, _, hu2, d2⟩ := Rp.sl_at1 rfl HRD.out (k := p + 2) (by omega)
          injection e2 with e2
          subst e2
          injection hu2 with hu2
          subst hu2
          rw [add_succ'] at d1 d2
          have i1 : (p : Int) + 1 < (bs.length : Int) := by omega
          have i2 : (p : Int) + 2 < (bs.length : Int) := by omega
          have j1 : (0 : Int) ≤ (p : Int) + 1 := by omega
          have j2 : (0 : Int) ≤ (p : Int) + 2 := by omega
          have n1 : ((p : Int) + 1).toNat = p + 1 := by omega
          have n2 : ((p : Int) + 2).toNat = p + 2 := by omega
          have s1 : IntKind.i64.wrap ((p : Int) + 1) = (p : Int) + 1 := IntWalk.i64_in _ (by omega)
          have s2 : IntKind.i64.wrap ((p : Int) + 2) = (p : Int) + 2 := IntWalk.i64_in _ (by omega)
          have g1 := getB_at (bs := bs) (i := p + 1) (by omega)
          have l1 := getB_lt bs (p + 1)
          have HLESS := Lib.hid (fun h => HSH.out (rc_two_less hlt h2 h3i h))
          have HOK := Lib.hid (fun h => HNX.out _ _ (rc_two_ok hlt h2 h))
          generalize getB bs (p + 1) = x1 at *
          have HV1 := add_val (UInt8.toNat_lt _) (UInt8.toNat_lt _) g1
          clear g1 h1 h2
          go_wp2
          go_quiet (fail)
          first | rw [HV1.out.1] | rw [HV1.out.2]
          clear HV1 i1 i2 j1 j2 n1 n2 s1 s2 d1 d2
          have HB1 := Lib.hid (below_drewN HB.out nq)
          have HR1 := Lib.hid (HR.out.kept (below_grown (below_drewN (Below.refl _ _) nq)))
          have HRQ := Lib.hid (Rp.drewN _ HRD.out nq)
          have d0 : (wr.drewN nq).cell? _ = _ := d0
          have hsq : wr.heap.size = (wr.drewN nq).heap.size := rfl
          generalize wr.drewN nq = wq at *
          by_cases h4 : bs.length < p + 3 + x1
          · have HS := Lib.hid (HLESS.out h4)
            have h4' : (bs.length : Int) - (p : Int) - 3 < x1 := by omega
            clear h4
            go_wp2
            go_ret3
            exact HS.out _ HB1.out
          have HS := Lib.hid (HOK.out (by omega))
          have h4' : ¬ ((bs.length : Int) - (p : Int) - 3 < x1) := by omega
          have h4i : p + 3 + x1 ≤ bs.length := by omega
          have hany := any_snoc l ⟨0, 0, (bs.drop (p + 3)).take x1⟩
          rw [HBD.out, bad_two, show ((bs.drop (p + 3)).take x1).length = x1 by rw [List.length_take, List.length_drop]; omega] at hany
          have hws1 := HB1.out.size
          clear h4 HLESS HOK
          have HCUTN : Hid (c ≠ p + 3 → (Rp.sl Rp.u8).ok wq (· < wq.heap.size) [.slice (some ⟨ad.block, ad.off + (p + 3), none⟩) x1 (c - (p + 3))] ((bs.drop (p + 3)).take x1)) := Lib.hid (fun hcp => by
            have hcut := Rp.sl_part1 rfl (Rp.sub _ HRQ.out (T := fun k => k < wq.heap.size) (fun k hk => by omega)) (lo := p + 3) (m := x1) (by omega)
            rw [if_neg hcp, Option.map_some, add_succ'] at hcut
            exact hcut)
          have HCL : Hid (((bs.drop (p + 3)).take x1).length = x1) := Lib.hid (by rw [List.length_take, List.length_drop]; omega)
          generalize (bs.drop (p + 3)).take x1 = cut at *
          by_cases hcp : c = p + 3
          · obtain rfl : x1 = 0 := by omega
            subst hcp
            have HCUT := Lib.hid (show (Rp.sl Rp.u8).ok wq (· < wq.heap.size) [.slice (some ad) 0 0] cut from by
              rw [List.eq_nil_of_length_eq_zero HCL.out]
              exact ⟨some ad, 0, by simp, by simp, by unfold maxLen; omega, by simp, fun k hk => absurd hk (by simp)⟩)
            have hany : (l ++ [(⟨0, 0, cut⟩ : Cp)]).any cpBad = true := by rw [hany]; simp
            have HANY := Lib.hid hany
            clear hany
            cases bad
            all_goals
              go_wp2_with fail
              refine (clone_any _ _ _ HCUT.out (by rw [HCL.out]; omega)).mono ?_
              rintro e w3 hq
              obtain ⟨vb, rfl, hv, hb3⟩ := clone_read hq
              have HB3 := Lib.hid (ext_trans HB1.out hb3)
              have HR3 := HR1.out.kept (below_grown hb3)
              obtain ⟨A9, c9, rfl, hl9, hc9, _⟩ := Rp.sl_open hv
              obtain ⟨xs, hown, hpush⟩ := HR3.open_ (by decide)
              have HO := Lib.hid hown
              have hwf0 : (Lit.int .i64 (0 : Int)).wf = true := WalkArith.wf_i64 (by omega)
              have hcpr : cpRp.ok w3 (fun b => b < w3.heap.size ∧ (Value.slice A5 l.length c5).ownBlock ≠ some b) [.int .i64 0, .int .i64 0, .slice A9 cut.length c9] ⟨0, 0, cut⟩ :=
                cp_mk (c := ⟨0, 0, cut⟩) hwf0 hwf0 (Rp.sub _ hv (fun b hb => ⟨hb.2, fun e => by have := (hown5 b e).2; omega⟩))
              have HDONE : Hid (∀ (w2 : World) (g cc : Nat), w3.grownBy w2 (Value.slice A5 l.length c5).ownBlock → w2.ownsRow w.heap.size 93 3 (.slice (some ⟨g, 0, none⟩) (l.length + 1) cc) (l.length + 1) (xs ++ [.int .i64 0, .int .i64 0, .slice A9 cut.length c9]) →
                ((Value.slice A5 l.length c5).ownBlock = some g ∨ w3.heap.size ≤ g) → Rows cpRp 93 w.heap.size w2 (.slice (some ⟨g, 0, none⟩) (l.length + 1) cc) (l ++ [⟨0, 0, cut⟩])) := fun w2 g cc h2 h3 h4 =>
                hpush w3 w2 g cc _ _ (below_grown (Below.refl _ _)) hcpr h2 h3 h4
              have hws3 := HB3.out.size
              clear hq hv hb3 hown hpush hcpr hwf0 HR3
              go_wp2_with (at_builtin; refine app_new (w := w3) rfl (.tmp 118) (.tmp 131) 40 rfl 93 (.agg #[.int .i64 0, .int .i64 0, .slice none 0 0]) 3 40 Try.underlying40 copy_info rfl (by decide) (m := 1) [.int .i64 0, .int .i64 0, .slice A9 cut.length c9] HO.out (by omega) rfl rfl rfl (by decide) (by simp [Value.oneCell']) (by unfold maxLen; omega) (by omega) ?_; intro g1 cc1 w2 HO1 HG1 HB9 HL1)
              go_roundw
              case rel => exact ⟨p + (3 + 0), l ++ [(⟨0, 0, cut⟩ : Cp)], _, by omega, by go_num, (by first | rfl | (simp; omega)), HANY, Lib.hid (HDONE.out w2 g1 cc1 HG1.out HO1.out HL1.out), HS, by simp; omega, HB9.out _ HB3.out⟩
              case measure => simp [intOf]; omega
          · have HCUT := Lib.hid (HCUTN.out hcp)
            have key : ∃ r : Bool, Hid ((bad || decide (x1 = 0 ∨ 3000 < x1)) = r) ∧ ((bad = true ∧ r = true) ∨ (bad = false ∧ r = true ∧ ((x1 : Int) == 0) = true) ∨ (bad = false ∧ r = true ∧ ((x1 : Int) == 0) = false ∧ 3000 < x1) ∨ (bad = false ∧ r = false ∧ ((x1 : Int) == 0) = false ∧ x1 ≤ 3000)) := by
              refine ⟨_, rfl, ?_⟩
              cases bad
              · by_cases q0 : x1 = 0
                · simp [q0]
                · by_cases q1 : 3000 < x1
                  · simp [q0, q1]
                  · simp [q0, q1]; omega
              · simp
            obtain ⟨r, HR9, key⟩ := key
            rw [HR9.out] at hany
            have HANY := Lib.hid hany
            clear hany HR9
            rcases key with ⟨rfl, rfl⟩ | ⟨rfl, rfl, q0⟩ | ⟨rfl, rfl, q0, q1⟩ | ⟨rfl, rfl, q0, q1⟩
            all_goals
              go_wp2_with fail
              refine (clone_any _ _ _ HCUT.out (by rw [HCL.out]; omega)).mono ?_
              rintro e w3 hq
              obtain ⟨vb, rfl, hv, hb3⟩ := clone_read hq
              have HB3 := Lib.hid (ext_trans HB1.out hb3)
              have HR3 := HR1.out.kept (below_grown hb3)
              obtain ⟨A9, c9, rfl, hl9, hc9, _⟩ := Rp.sl_open hv
              obtain ⟨xs, hown, hpush⟩ := HR3.open_ (by decide)
              have HO := Lib.hid hown
              have hwf0 : (Lit.int .i64 (0 : Int)).wf = true := WalkArith.wf_i64 (by omega)
              have hcpr : cpRp.ok w3 (fun b => b < w3.heap.size ∧ (Value.slice A5 l.length c5).ownBlock ≠ some b) [.int .i64 0, .int .i64 0, .slice A9 cut.length c9] ⟨0, 0, cut⟩ :=
                cp_mk (c := ⟨0, 0, cut⟩) hwf0 hwf0 (Rp.sub _ hv (fun b hb => ⟨hb.2, fun e => by have := (hown5 b e).2; omega⟩))
              have HDONE : Hid (∀ (w2 : World) (g cc : Nat), w3.grownBy w2 (Value.slice A5 l.length c5).ownBlock → w2.ownsRow w.heap.size 93 3 (.slice (some ⟨g, 0, none⟩) (l.length + 1) cc) (l.length + 1) (xs ++ [.int .i64 0, .int .i64 0, .slice A9 cut.length c9]) →
                ((Value.slice A5 l.length c5).ownBlock = some g ∨ w3.heap.size ≤ g) → Rows cpRp 93 w.heap.size w2 (.slice (some ⟨g, 0, none⟩) (l.length + 1) cc) (l ++ [⟨0, 0, cut⟩])) := fun w2 g cc h2 h3 h4 =>
                hpush w3 w2 g cc _ _ (below_grown (Below.refl _ _)) hcpr h2 h3 h4
              have hws3 := HB3.out.size
              clear hq hv hb3 hown hpush hcpr hwf0 HR3
              go_wp2_with (at_builtin; refine app_new (w := w3) rfl (.tmp 118) (.tmp 131) 40 rfl 93 (.agg #[.int .i64 0, .int .i64 0, .slice none 0 0]) 3 40 Try.underlying40 copy_info rfl (by decide) (m := 1) [.int .i64 0, .int .i64 0, .slice A9 cut.length c9] HO.out (by omega) rfl rfl rfl (by decide) (by simp [Value.oneCell']) (by unfold maxLen; omega) (by omega) ?_; intro g1 cc1 w2 HO1 HG1 HB9 HL1)
              go_roundw
              case rel => exact ⟨p + (3 + x1), l ++ [(⟨0, 0, cut⟩ : Cp)], _, by omega, by go_num, (by first | rfl | (simp; omega)), HANY, Lib.hid (HDONE.out w2 g1 cc1 HG1.out HO1.out HL1.out), HS, by simp; omega, HB9.out _ HB3.out⟩
              case measure => simp [intOf]; omega
        · have b1n : ((bs[p].toNat : Int) != 1) = true := by rw [bne, show ((bs[p].toNat : Int) == 1) = false from u8_int_ne (n := 1) h1]; rfl
          have b2n : ((bs[p].toNat : Int) != 2) = true := by rw [bne, show ((bs[p].toNat : Int) == 2) = false from u8_int_ne (n := 2) h2]; rfl
          have HP : Hid (∀ w', Below w.heap.size w w' → RdPost bs w (.returned (.tuple #[.slice none 0 0, .int .i64 (p : Nat), .int .i64 10])) w') := fun w' hb => by
            have := rdPost_err (r := (bs.drop p).length) hbig (by rw [← HG.out, rdGo_bad hne (rc_bad hlt h1 h2)]) hb
            rw [List.length_drop, show bs.length - (bs.length - p) = p by omega] at this
            exact this
          clear h1 h2
          go_wp2
          go_ret3
          exact HP.out _ HB.out
    · obtain rfl : p = bs.length := by omega
      have hfin := HG.out
      rw [List.drop_length, rdGo_nil] at hfin
      have hg := hfin.symm
      obtain ⟨A5, c5, rfl, hn5, hc5, _⟩ := HR.out.form
      cases bad with
      | true =>
        have HP := Lib.hid (rdPost_form hbig hg HBD.out HB.out)
        clear hfin hg
        go_wp2
        go_ret3
        exact HP.out
      | false =>
        by_cases hm : 3000 < l.length
        · have HP := Lib.hid (rdPost_many hbig hg HBD.out hm HB.out)
          clear hfin hg
          go_wp2
          go_ret3
          exact HP.out
        · have HP := Lib.hid (rdPost_good hbig hg HBD.out hm (HR.out.read (by decide)) HB.out)
          clear hfin hg
          go_wp2
          go_ret3
          exact HP.out
end Go.Proofs.Ytofahmdjhpbecaa
