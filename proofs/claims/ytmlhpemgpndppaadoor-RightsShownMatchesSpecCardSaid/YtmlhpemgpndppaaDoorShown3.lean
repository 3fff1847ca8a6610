/-
  'Hidden' of package rights and of the reference of chapter 10.
-/
import Derived.Test.YtmlhpemgpndppaaDoorShown2
namespace Go.Proofs.YtmlhpemgpndppaaDoor
open Go.RowKit
set_option linter.unusedVariables false
set_option linter.unusedSimpArgs false

set_option maxRecDepth 100000 in
set_option maxHeartbeats 8000000 in
theorem hidden_any (vt : Value) (t : List Team) (vl : Value) (l : List Rgt) (vs : Value) (s : List Shn) (at_ : Int) (w : World) (ht : (Rp.sl teamRp).ok w (· < w.heap.size) [vt] t) (h0 : (Rp.sl rgtRp).ok w (· < w.heap.size) [vl] l) (hs : (Rp.sl shnRp).ok w (· < w.heap.size) [vs] s) :
    Calls Tryd.prog 28 #[vt, vl, vs, .int .i64 at_] w (SelPost (hiF t l s at_) (hiV t l s at_) w) := by
  obtain ⟨At, ct, rfl, _⟩ := Rp.sl_open ht
  obtain ⟨Al, cl, rfl, _⟩ := Rp.sl_open h0
  obtain ⟨As, cs, rfl, hls, hcs, _⟩ := Rp.sl_open hs
  unfold maxLen at hcs
  have HT := Lib.hid ht
  have H0 := Lib.hid h0
  have HS := Lib.hid hs
  clear ht h0 hs
  go_enter Tryd.func28, Tryd.ntmps28
  go_wp2_with fail
  refine (checkBoth_any (.slice At t.length ct) t (.slice Al l.length cl) l _ s w HT.out H0.out HS.out).mono ?_
  rintro e w1 ⟨rfl, hb⟩
  have HB1 := Lib.hid hb
  clear hb
  by_cases hf : bothF t l s = 0
  case neg =>
    have HF : Hid (hiF t l s at_ = bothF t l s) := Lib.hid (if_pos hf)
    have HV : Hid (hiV t l s at_ = []) := Lib.hid (if_neg (by rw [show hiF t l s at_ = bothF t l s from if_pos hf]; exact hf))
    have hn : (bothF t l s != 0) = true := by simpa using hf
    clear hf
    generalize bothF t l s = f at *
    go_wp2_with fail
    go_ret2
    exact ⟨_, by rw [HF.out]; rfl, by rw [HV.out]; exact Rp.sl_nil _ _ _, HB1.out⟩
  obtain ⟨htf, hTG, hRG, hs3⟩ := both_good hf
  have HTF := Lib.hid htf
  have HTG := Lib.hid hTG
  have HRG := Lib.hid hRG
  have hrl := hRG.len
  clear htf hTG hRG
  have HR : Hid (hiF t l s at_ = if withinB at_ 0 253402300799 = false ∨ (0 < s.length ∧ at_ < (s.getD (s.length - 1) default).at_) then 1 else 0) := Lib.hid (if_neg (by rw [hf]; decide))
  rw [hf]
  clear hf
  go_wp2_with fail
  refine (moment_any at_ _).mono ?_
  rintro e w1 ⟨rfl, rfl⟩
  cases hq : withinB at_ 0 253402300799 with
  | false =>
    have HF : Hid (hiF t l s at_ = 1) := Lib.hid (HR.out.trans (if_pos (.inl hq)))
    have HV : Hid (hiV t l s at_ = []) := Lib.hid (if_neg (by rw [HF.out]; decide))
    clear hq HR
    go_wp2_with fail
    go_ret2
    exact ⟨_, by rw [HF.out]; rfl, by rw [HV.out]; exact Rp.sl_nil _ _ _, HB1.out⟩
  | true =>
    by_cases hs0 : s.length = 0
    · have HF : Hid (hiF t l s at_ = 0) := Lib.hid (HR.out.trans (if_neg (fun e => e.elim (fun h => by rw [hq] at h; cases h) (fun h => by omega))))
      have HV : Hid (hiV t l s at_ = selL (hiP t l s at_) s.length) := Lib.hid (if_pos HF.out)
      have hs0I : ¬ (0 : Int) < (s.length : Int) := by omega
      clear hq HR
      have HS0 := Lib.hid hs0
      clear hs0
      have HM0 : Hid (MSt t (.slice At t.length ct) (.slice Al l.length cl) (w1.heap.size + 1) w1.heap.size 0 (fun _ => none) ((w1.alloc (.map #[] 0)).alloc (.cells #[(.slice At t.length ct), (.slice Al l.length cl), .map (some w1.heap.size)] 85))) := Lib.hid (by
        have h1 := Blk.new (w1.alloc (.map #[] 0)) 85 [(.slice At t.length ct), (.slice Al l.length cl), .map (some w1.heap.size)]
        rw [World.size_alloc] at h1
        exact ⟨h1, (VMap.made w1).below ((Below.refl _ _).alloc (Nat.le_refl _) _) (by simp), fun who house kl v hk hf => by cases hf⟩)
      have HB2 : Hid (Below w.heap.size w ((w1.alloc (.map #[] 0)).alloc (.cells #[(.slice At t.length ct), (.slice Al l.length cl), .map (some w1.heap.size)] 85))) := Lib.hid ((HB1.out.trans (((Below.refl w1.heap.size w1).alloc (Nat.le_refl _) _).mono HB1.out.size)).trans (((Below.refl (w1.alloc (.map #[] 0)).heap.size _).alloc (Nat.le_refl _) _).mono (by rw [World.size_alloc]; have := HB1.out.size; omega)))
      have hsz2 : ((w1.alloc (.map #[] 0)).alloc (.cells #[(.slice At t.length ct), (.slice Al l.length cl), .map (some w1.heap.size)] 85)).heap.size = w1.heap.size + 1 + 1 := by simp
      have hw1 := HB1.out.size
      have hmm := @run_makeMap Tryd.prog
      go_wp2_with fail
      clear hmm
      generalize (w1.alloc (.map #[] 0)).alloc (.cells #[(.slice At t.length ct), (.slice Al l.length cl), .map (some w1.heap.size)] 85) = w2 at *
      obtain ⟨b, hb⟩ : ∃ b, b = w1.heap.size := ⟨_, rfl⟩
      rw [← hb] at HM0 hsz2 hw1 ⊢
      clear hb
      go_loopw [12, 48] (fun vo vi wr => ∃ (k n : Nat) (f : Lit → Option Value), k ≤ s.length ∧ vi = .int .i64 k ∧ n ≤ 2 * k ∧ Hid (MSt t (.slice At t.length ct) (.slice Al l.length cl) (b + 1) b n f wr) ∧ Hid (wr.ownsRow w2.heap.size 3 1 vo (selL (hiP t l s at_) k).length (ivals (selL (hiP t l s at_) k))) ∧ Hid (Below w.heap.size w wr) ∧ Hid (w2.heap.size ≤ wr.heap.size)) (fun _ vi _ => s.length - (intOf vi).toNat)
      case atStart => exact ⟨0, 0, fun _ => none, by omega, rfl, by omega, HM0, World.ownsRow_nil _ _ _ _, HB2, Nat.le_refl _⟩
      case round =>
        (try clear hs0I)
        (try clear hsp hs1 hs2 hs3' hs4 c0)
        clear HM0 HB2
        obtain ⟨k, n, f, hk, rfl, hnk, HM, HO, HB, HWS⟩ := hrel
        obtain ⟨Ao, co, hvo, hco1, hco2, _⟩ := own_form HO.out
        subst hvo
        have hol := selL_len (hiP t l s at_) k
        by_cases hlt : k < s.length
        · exfalso
          have h := HS0.out
          omega
        · obtain rfl : k = s.length := by omega
          go_wp2_with fail
          go_ret2
          exact ⟨_, by rw [HF.out]; rfl, by rw [HV.out]; exact ints_read HO.out (fun j hj => by have := selL_lt _ _ j hj; omega), HB.out⟩
    obtain ⟨ad, c', e1, hadb, c0, c1, c2, c3, c4, hz⟩ := shn_at (Rp.below _ HS.out HB1.out) (show s.length - 1 < s.length by omega)
    injection e1 with e1 _ e2
    subst e1 e2
    have HC0 := Lib.hid c0
    clear c0 c1 c2 c3 c4 hz hadb
    have hgd : s.getD (s.length - 1) default = s[s.length - 1]'(by omega) := getD_at _ _ (by omega)
    rw [hgd] at HR
    generalize s[s.length - 1]'(by omega) = y at *
    clear hgd
    have hsp : (0 : Int) < (s.length : Int) := by omega
    have hs1 : ((s.length : Int) - 1).toNat = s.length - 1 := by omega
    have hs2 : (0 : Int) ≤ (s.length : Int) - 1 := by omega
    have hs3' : (1 : Int) ≤ (s.length : Int) := by omega
    have hs4 : IntKind.i64.wrap ((s.length : Int) - 1) = (s.length : Int) - 1 := by rw [IntKind.wrap_i64]; omega
    have c0 := HC0.out
    by_cases hlt : at_ < y.at_
    · have HF : Hid (hiF t l s at_ = 1) := Lib.hid (HR.out.trans (if_pos (.inr ⟨by omega, hlt⟩)))
      have HV : Hid (hiV t l s at_ = []) := Lib.hid (if_neg (by rw [HF.out]; decide))
      clear hq HR
      go_wp2_with fail
      go_ret2
      exact ⟨_, by rw [HF.out]; rfl, by rw [HV.out]; exact Rp.sl_nil _ _ _, HB1.out⟩
    have HF : Hid (hiF t l s at_ = 0) := Lib.hid (HR.out.trans (if_neg (fun e => e.elim (fun h => by rw [hq] at h; cases h) (fun h => hlt h.2))))
    have HV : Hid (hiV t l s at_ = selL (hiP t l s at_) s.length) := Lib.hid (if_pos HF.out)
    clear hq HR
    have HM0 : Hid (MSt t (.slice At t.length ct) (.slice Al l.length cl) (w1.heap.size + 1) w1.heap.size 0 (fun _ => none) ((w1.alloc (.map #[] 0)).alloc (.cells #[(.slice At t.length ct), (.slice Al l.length cl), .map (some w1.heap.size)] 85))) := Lib.hid (by
      have h1 := Blk.new (w1.alloc (.map #[] 0)) 85 [(.slice At t.length ct), (.slice Al l.length cl), .map (some w1.heap.size)]
      rw [World.size_alloc] at h1
      exact ⟨h1, (VMap.made w1).below ((Below.refl _ _).alloc (Nat.le_refl _) _) (by simp), fun who house kl v hk hf => by cases hf⟩)
    have HB2 : Hid (Below w.heap.size w ((w1.alloc (.map #[] 0)).alloc (.cells #[(.slice At t.length ct), (.slice Al l.length cl), .map (some w1.heap.size)] 85))) := Lib.hid ((HB1.out.trans (((Below.refl w1.heap.size w1).alloc (Nat.le_refl _) _).mono HB1.out.size)).trans (((Below.refl (w1.alloc (.map #[] 0)).heap.size _).alloc (Nat.le_refl _) _).mono (by rw [World.size_alloc]; have := HB1.out.size; omega)))
    have hsz2 : ((w1.alloc (.map #[] 0)).alloc (.cells #[(.slice At t.length ct), (.slice Al l.length cl), .map (some w1.heap.size)] 85)).heap.size = w1.heap.size + 1 + 1 := by simp
    have hw1 := HB1.out.size
    have hmm := @run_makeMap Tryd.prog
    go_wp2_with fail
    clear hmm
    generalize (w1.alloc (.map #[] 0)).alloc (.cells #[(.slice At t.length ct), (.slice Al l.length cl), .map (some w1.heap.size)] 85) = w2 at *
    obtain ⟨b, hb⟩ : ∃ b, b = w1.heap.size := ⟨_, rfl⟩
    rw [← hb] at HM0 hsz2 hw1 ⊢
    clear hb
    go_loopw [12, 48] (fun vo vi wr => ∃ (k n : Nat) (f : Lit → Option Value), k ≤ s.length ∧ vi = .int .i64 k ∧ n ≤ 2 * k ∧ Hid (MSt t (.slice At t.length ct) (.slice Al l.length cl) (b + 1) b n f wr) ∧ Hid (wr.ownsRow w2.heap.size 3 1 vo (selL (hiP t l s at_) k).length (ivals (selL (hiP t l s at_) k))) ∧ Hid (Below w.heap.size w wr) ∧ Hid (w2.heap.size ≤ wr.heap.size)) (fun _ vi _ => s.length - (intOf vi).toNat)
    case atStart => exact ⟨0, 0, fun _ => none, by omega, rfl, by omega, HM0, World.ownsRow_nil _ _ _ _, HB2, Nat.le_refl _⟩
    case round =>
      (try clear hs0I)
      (try clear hsp hs1 hs2 hs3' hs4 c0)
      clear HM0 HB2
      obtain ⟨k, n, f, hk, rfl, hnk, HM, HO, HB, HWS⟩ := hrel
      obtain ⟨Ao, co, hvo, hco1, hco2, _⟩ := own_form HO.out
      subst hvo
      have hol := selL_len (hiP t l s at_) k
      by_cases hlt : k < s.length
      · obtain ⟨ad, c', e1, hadb, c0, c1, c2, c3, c4, hz⟩ := shn_at (Rp.below _ HS.out HB.out) hlt
        cases e1
        obtain ⟨_, hxw, hxk, _⟩ := hz
        have HP : Hid (hiP t l s at_ k = (shB t l s[k] s[k].at_ && !shB t l s[k] at_)) := Lib.hid (by unfold hiP; rw [getD_at _ _ hlt])
        generalize hx : s[k] = x at *
        clear hx
        have hal := (Below.refl wr.heap.size wr).alloc (Nat.le_refl _) (.cells #[.int .i64 x.at_, .string (bstr x.who), .bool x.house, .string (bstr x.key), .int .i64 x.time] 50)
        have HB4 := Lib.hid (HB.out.trans (hal.mono HB.out.size))
        have HKX4 := Lib.hid (Blk.new wr 50 [.int .i64 x.at_, .string (bstr x.who), .bool x.house, .string (bstr x.key), .int .i64 x.time])
        have HO4 := Lib.hid (own_below HO.out hal)
        have HWS4 := Lib.hid (Nat.le_trans HWS.out hal.size)
        have HM4 := Lib.hid (HM.out.below hal)
        clear hal
        have x0 : (wr.alloc (.cells #[.int .i64 x.at_, .string (bstr x.who), .bool x.house, .string (bstr x.key), .int .i64 x.time] 50)).cell? ⟨wr.heap.size, 0, none⟩ = some (.int .i64 x.at_) := HKX4.out.cell 0
        have x1 : (wr.alloc (.cells #[.int .i64 x.at_, .string (bstr x.who), .bool x.house, .string (bstr x.key), .int .i64 x.time] 50)).cell? ⟨wr.heap.size, 1, none⟩ = some (.string (bstr x.who)) := HKX4.out.cell 1
        have x2 : (wr.alloc (.cells #[.int .i64 x.at_, .string (bstr x.who), .bool x.house, .string (bstr x.key), .int .i64 x.time] 50)).cell? ⟨wr.heap.size, 2, none⟩ = some (.bool x.house) := HKX4.out.cell 2
        have x3 : (wr.alloc (.cells #[.int .i64 x.at_, .string (bstr x.who), .bool x.house, .string (bstr x.key), .int .i64 x.time] 50)).cell? ⟨wr.heap.size, 3, none⟩ = some (.string (bstr x.key)) := HKX4.out.cell 3
        have x4 : (wr.alloc (.cells #[.int .i64 x.at_, .string (bstr x.who), .bool x.house, .string (bstr x.key), .int .i64 x.time] 50)).cell? ⟨wr.heap.size, 4, none⟩ = some (.int .i64 x.time) := HKX4.out.cell 4
        go_wp2_with fail
        clear c0 c1 c2 c3 c4 x0 x1 x2 x3 x4
        obtain ⟨xb, hxb⟩ : ∃ xb, xb = wr.heap.size := ⟨_, rfl⟩
        have HXB := Lib.hid hxb
        rw [← hxb] at HKX4 ⊢
        clear hxb
        generalize (wr.alloc (.cells #[.int .i64 x.at_, .string (bstr x.who), .bool x.house, .string (bstr x.key), .int .i64 x.time] 50)) = wr4 at *
        have hxk9 : x.key.length ≤ 9223372036854775807 := hxk
        refine (maysMay_any t l x x.at_ (.slice At t.length ct) (.slice Al l.length cl) (b + 1) b n f wr4 w.heap.size (Rp.below _ HT.out HB4.out) (Rp.below _ H0.out HB4.out) HTG.out (by omega) (by omega) HM4.out (by omega) (by omega) hxw hxk).mono ?_
        rintro e wr5 ⟨rfl, hg, m5, f5, hm5, hM⟩
        rw [mayS_eq HTF.out HRG.out]
        have HG5 := Lib.hid hg
        have HM5 := Lib.hid hM
        have HB5 := Lib.hid (HB4.out.grown hg HB4.out.size (fun j e => by have := Option.some.inj e; omega))
        have HKX5 := Lib.hid (HKX4.out.same (grown_same hg) ⟨HKX4.out.lt, fun e => by have := Option.some.inj e; have := HXB.out; have := HWS.out; omega⟩)
        have HO5 := Lib.hid (HO4.out.kept hg (.inr (HM4.out.map.notRow HO4.out).symm))
        have HWS5 := Lib.hid (Nat.le_trans HWS4.out hg.size)
        clear hg hM
        cases hq : shB t l x x.at_ with
        | false =>
          have HE := Lib.hid (selL_no (n := k) (p := hiP t l s at_) (HP.out.trans (by rw [hq]; rfl)))
          go_wp2_with fail
          go_roundw
          case rel => first | exact ⟨k + 1, m5, _, by omega, by go_num, by omega, HM5, by rw [HE.out]; exact HO5, HB5, HWS5⟩ | (repeat (apply Exists.intro); (refine And.intro ?_ ?_; rotate_left; (repeat' (first | exact rfl | apply And.intro)); exact ⟨k + 1, m5, _, by omega, by go_num, by omega, HM5, by rw [HE.out]; exact HO5, HB5, HWS5⟩))
          case measure => simp [intOf]; omega
        | true =>
          have x0 : wr5.cell? ⟨xb, 0, none⟩ = some (.int .i64 x.at_) := HKX5.out.cell 0
          have x1 : wr5.cell? ⟨xb, 1, none⟩ = some (.string (bstr x.who)) := HKX5.out.cell 1
          have x2 : wr5.cell? ⟨xb, 2, none⟩ = some (.bool x.house) := HKX5.out.cell 2
          have x3 : wr5.cell? ⟨xb, 3, none⟩ = some (.string (bstr x.key)) := HKX5.out.cell 3
          have x4 : wr5.cell? ⟨xb, 4, none⟩ = some (.int .i64 x.time) := HKX5.out.cell 4
          have HQ := Lib.hid hq
          clear hq
          go_wp2_with fail
          clear x0 x1 x2 x3 x4
          refine (maysMay_any t l x at_ (.slice At t.length ct) (.slice Al l.length cl) (b + 1) b m5 f5 wr5 w.heap.size (Rp.below _ HT.out HB5.out) (Rp.below _ H0.out HB5.out) HTG.out (by omega) (by omega) HM5.out (by omega) (by omega) hxw hxk).mono ?_
          rintro e wr6 ⟨rfl, hg, m6, f6, hm6, hM⟩
          rw [mayS_eq HTF.out HRG.out]
          have HG6 := Lib.hid hg
          have HM6 := Lib.hid hM
          have HB6 := Lib.hid (HB5.out.grown hg HB5.out.size (fun j e => by have := Option.some.inj e; omega))
          have HKX6 := Lib.hid (HKX5.out.same (grown_same hg) ⟨HKX5.out.lt, fun e => by have := Option.some.inj e; have := HXB.out; have := HWS.out; omega⟩)
          have HO6 := Lib.hid (HO5.out.kept hg (.inr (HM5.out.map.notRow HO5.out).symm))
          have HWS6 := Lib.hid (Nat.le_trans HWS5.out hg.size)
          clear hg hM
          cases hq : shB t l x at_ with
          | true =>
            have HE := Lib.hid (selL_no (n := k) (p := hiP t l s at_) (HP.out.trans (by rw [hq, HQ.out]; rfl)))
            go_wp2_with fail
            go_roundw
            case rel => first | exact ⟨k + 1, m6, _, by omega, by go_num, by omega, HM6, by rw [HE.out]; exact HO6, HB6, HWS6⟩ | (repeat (apply Exists.intro); (refine And.intro ?_ ?_; rotate_left; (repeat' (first | exact rfl | apply And.intro)); exact ⟨k + 1, m6, _, by omega, by go_num, by omega, HM6, by rw [HE.out]; exact HO6, HB6, HWS6⟩))
            case measure => simp [intOf]; omega
          | false =>
            have HE := Lib.hid (selL_yes (n := k) (p := hiP t l s at_) (HP.out.trans (by rw [hq, HQ.out]; rfl)))
            have hbs : w2.heap.size ≤ wr6.heap.size := HWS6.out
            go_wp2_with (at_builtin; go_must (refine app_new (w := wr6) rfl (.tmp 65) (.tmp 67) 52 rfl 3 (.int .i64 0) 1 8 Tryd.underlying52 int_info rfl (by decide) (m := 1) [.int .i64 (k : Int)] HO6.out hbs rfl rfl rfl (by decide) (by simp [Value.oneCell']) (by unfold maxLen; omega) (by omega) ?_); intro g7 c7 w7 HO7 HG7 HE7 HL7)
            have HOB := Lib.hid (fun g hg => (HO6.out.lt g hg).1)
            have HM7 := Lib.hid (HM6.out.grown HG7.out (fun e => by have := HOB.out _ e.symm; omega) (fun e => by have := HOB.out _ e.symm; omega) (fun v B j xs h => row_ne h HO6.out (by decide)))
            have HB7 := Lib.hid (HB6.out.grown HG7.out HB6.out.size (fun g hg => by have h1 := (HO6.out.lt g hg).1; have h2 := HB1.out.size; omega))
            have HWS7 := Lib.hid (Nat.le_trans hbs HG7.out.size)
            go_roundw
            case rel => first | exact ⟨k + 1, m6, _, by omega, by go_num, by omega, HM7, by rw [HE.out.1, HE.out.2]; exact HO7, HB7, HWS7⟩ | (repeat (apply Exists.intro); (refine And.intro ?_ ?_; rotate_left; (repeat' (first | exact rfl | apply And.intro)); exact ⟨k + 1, m6, _, by omega, by go_num, by omega, HM7, by rw [HE.out.1, HE.out.2]; exact HO7, HB7, HWS7⟩))
            case measure => simp [intOf]; omega
      · obtain rfl : k = s.length := by omega
        go_wp2_with fail
        go_ret2
        exact ⟨_, by rw [HF.out]; rfl, by rw [HV.out]; exact ints_read HO.out (fun j hj => by have := selL_lt _ _ j hj; omega), HB.out⟩
set_option maxRecDepth 100000 in
set_option maxHeartbeats 8000000 in
theorem hHidden_any (vt : Value) (t : List Team) (vl : Value) (l : List Rgt) (vs : Value) (s : List Shn) (at_ : Int) (w : World) (ht : (Rp.sl teamRp).ok w (· < w.heap.size) [vt] t) (h0 : (Rp.sl rgtRp).ok w (· < w.heap.size) [vl] l) (hs : (Rp.sl shnRp).ok w (· < w.heap.size) [vs] s) :
    Calls Tryd.prog 29 #[vt, vl, vs, .int .i64 at_] w (SelPost (hiF t l s at_) (hiV t l s at_) w) := by
  obtain ⟨As, cs, rfl, hls, hcs, _⟩ := Rp.sl_open hs
  unfold maxLen at hcs
  have HT := Lib.hid ht
  have H0 := Lib.hid h0
  have HS := Lib.hid hs
  clear ht h0 hs
  go_enter Tryd.func29, Tryd.ntmps29
  go_wp2_with fail
  refine (askShown_any vt t vl l _ s w HT.out H0.out HS.out).mono ?_
  rintro e w1 ⟨rfl, hb⟩
  have HB1 := Lib.hid hb
  clear hb
  by_cases hf : bothF t l s = 0
  case neg =>
    have HF : Hid (hiF t l s at_ = bothF t l s) := Lib.hid (if_pos hf)
    have HV : Hid (hiV t l s at_ = []) := Lib.hid (if_neg (by rw [show hiF t l s at_ = bothF t l s from if_pos hf]; exact hf))
    have hn : (bothF t l s != 0) = true := by simpa using hf
    clear hf
    generalize bothF t l s = f at *
    go_wp2_with fail
    go_ret2
    exact ⟨_, by rw [HF.out]; rfl, by rw [HV.out]; exact Rp.sl_nil _ _ _, HB1.out⟩
  obtain ⟨htf, hTG, hRG, hs3⟩ := both_good hf
  have HTF := Lib.hid htf
  have HTG := Lib.hid hTG
  have HRG := Lib.hid hRG
  have hrl := hRG.len
  clear htf hTG hRG
  have HR : Hid (hiF t l s at_ = if withinB at_ 0 253402300799 = false ∨ (0 < s.length ∧ at_ < (s.getD (s.length - 1) default).at_) then 1 else 0) := Lib.hid (if_neg (by rw [hf]; decide))
  rw [hf]
  clear hf
  go_wp2_with fail
  refine (hwithin_any at_ 0 253402300799 _).mono ?_
  rintro e w1 ⟨rfl, rfl⟩
  cases hq : withinB at_ 0 253402300799 with
  | false =>
    have HF : Hid (hiF t l s at_ = 1) := Lib.hid (HR.out.trans (if_pos (.inl hq)))
    have HV : Hid (hiV t l s at_ = []) := Lib.hid (if_neg (by rw [HF.out]; decide))
    clear hq HR
    go_wp2_with fail
    go_ret2
    exact ⟨_, by rw [HF.out]; rfl, by rw [HV.out]; exact Rp.sl_nil _ _ _, HB1.out⟩
  | true =>
    by_cases hs0 : s.length = 0
    · have HF : Hid (hiF t l s at_ = 0) := Lib.hid (HR.out.trans (if_neg (fun e => e.elim (fun h => by rw [hq] at h; cases h) (fun h => by omega))))
      have HV : Hid (hiV t l s at_ = selL (hiP t l s at_) s.length) := Lib.hid (if_pos HF.out)
      have hs0I : ¬ (0 : Int) < (s.length : Int) := by omega
      clear hq HR
      have HS0 := Lib.hid hs0
      clear hs0
      go_wp2_with fail
      go_loopw [11, 42] (fun vo vi wr => ∃ (k : Nat), k ≤ s.length ∧ vi = .int .i64 k ∧ Hid (wr.ownsRow w1.heap.size 3 1 vo (selL (hiP t l s at_) k).length (ivals (selL (hiP t l s at_) k))) ∧ Hid (Below w.heap.size w wr) ∧ Hid (w1.heap.size ≤ wr.heap.size)) (fun _ vi _ => s.length - (intOf vi).toNat)
      case atStart => exact ⟨0, by omega, rfl, World.ownsRow_nil _ _ _ _, HB1, Nat.le_refl _⟩
      case round =>
        (try clear hs0I)
        (try clear hsp hs1 hs2 hs3' hs4 c0)
        obtain ⟨k, hk, rfl, HO, HB, HWS⟩ := hrel
        obtain ⟨Ao, co, hvo, hco1, hco2, _⟩ := own_form HO.out
        subst hvo
        have hol := selL_len (hiP t l s at_) k
        by_cases hlt : k < s.length
        · exfalso
          have h := HS0.out
          omega
        · obtain rfl : k = s.length := by omega
          go_wp2_with fail
          go_ret2
          exact ⟨_, by rw [HF.out]; rfl, by rw [HV.out]; exact ints_read HO.out (fun j hj => by have := selL_lt _ _ j hj; omega), HB.out⟩
    obtain ⟨ad, c', e1, hadb, c0, c1, c2, c3, c4, hz⟩ := shn_at (Rp.below _ HS.out HB1.out) (show s.length - 1 < s.length by omega)
    injection e1 with e1 _ e2
    subst e1 e2
    have HC0 := Lib.hid c0
    clear c0 c1 c2 c3 c4 hz hadb
    have hgd : s.getD (s.length - 1) default = s[s.length - 1]'(by omega) := getD_at _ _ (by omega)
    rw [hgd] at HR
    generalize s[s.length - 1]'(by omega) = y at *
    clear hgd
    have hsp : (0 : Int) < (s.length : Int) := by omega
    have hs1 : ((s.length : Int) - 1).toNat = s.length - 1 := by omega
    have hs2 : (0 : Int) ≤ (s.length : Int) - 1 := by omega
    have hs3' : (1 : Int) ≤ (s.length : Int) := by omega
    have hs4 : IntKind.i64.wrap ((s.length : Int) - 1) = (s.length : Int) - 1 := by rw [IntKind.wrap_i64]; omega
    have c0 := HC0.out
    by_cases hlt : at_ < y.at_
    · have HF : Hid (hiF t l s at_ = 1) := Lib.hid (HR.out.trans (if_pos (.inr ⟨by omega, hlt⟩)))
      have HV : Hid (hiV t l s at_ = []) := Lib.hid (if_neg (by rw [HF.out]; decide))
      clear hq HR
      go_wp2_with fail
      go_ret2
      exact ⟨_, by rw [HF.out]; rfl, by rw [HV.out]; exact Rp.sl_nil _ _ _, HB1.out⟩
    have HF : Hid (hiF t l s at_ = 0) := Lib.hid (HR.out.trans (if_neg (fun e => e.elim (fun h => by rw [hq] at h; cases h) (fun h => hlt h.2))))
    have HV : Hid (hiV t l s at_ = selL (hiP t l s at_) s.length) := Lib.hid (if_pos HF.out)
    clear hq HR
    go_wp2_with fail
    go_loopw [11, 42] (fun vo vi wr => ∃ (k : Nat), k ≤ s.length ∧ vi = .int .i64 k ∧ Hid (wr.ownsRow w1.heap.size 3 1 vo (selL (hiP t l s at_) k).length (ivals (selL (hiP t l s at_) k))) ∧ Hid (Below w.heap.size w wr) ∧ Hid (w1.heap.size ≤ wr.heap.size)) (fun _ vi _ => s.length - (intOf vi).toNat)
    case atStart => exact ⟨0, by omega, rfl, World.ownsRow_nil _ _ _ _, HB1, Nat.le_refl _⟩
    case round =>
      (try clear hs0I)
      (try clear hsp hs1 hs2 hs3' hs4 c0)
      obtain ⟨k, hk, rfl, HO, HB, HWS⟩ := hrel
      obtain ⟨Ao, co, hvo, hco1, hco2, _⟩ := own_form HO.out
      subst hvo
      have hol := selL_len (hiP t l s at_) k
      by_cases hlt : k < s.length
      · obtain ⟨ad, c', e1, hadb, c0, c1, c2, c3, c4, hz⟩ := shn_at (Rp.below _ HS.out HB.out) hlt
        cases e1
        obtain ⟨_, hxw, hxk, _⟩ := hz
        have HP : Hid (hiP t l s at_ k = (shB t l s[k] s[k].at_ && !shB t l s[k] at_)) := Lib.hid (by unfold hiP; rw [getD_at _ _ hlt])
        generalize hx : s[k] = x at *
        clear hx
        have hal := (Below.refl wr.heap.size wr).alloc (Nat.le_refl _) (.cells #[.int .i64 x.at_, .string (bstr x.who), .bool x.house, .string (bstr x.key), .int .i64 x.time] 50)
        have HB4 := Lib.hid (HB.out.trans (hal.mono HB.out.size))
        have HKX4 := Lib.hid (Blk.new wr 50 [.int .i64 x.at_, .string (bstr x.who), .bool x.house, .string (bstr x.key), .int .i64 x.time])
        have HO4 := Lib.hid (own_below HO.out hal)
        have HWS4 := Lib.hid (Nat.le_trans HWS.out hal.size)
        clear hal
        have x0 : (wr.alloc (.cells #[.int .i64 x.at_, .string (bstr x.who), .bool x.house, .string (bstr x.key), .int .i64 x.time] 50)).cell? ⟨wr.heap.size, 0, none⟩ = some (.int .i64 x.at_) := HKX4.out.cell 0
        have x1 : (wr.alloc (.cells #[.int .i64 x.at_, .string (bstr x.who), .bool x.house, .string (bstr x.key), .int .i64 x.time] 50)).cell? ⟨wr.heap.size, 1, none⟩ = some (.string (bstr x.who)) := HKX4.out.cell 1
        have x2 : (wr.alloc (.cells #[.int .i64 x.at_, .string (bstr x.who), .bool x.house, .string (bstr x.key), .int .i64 x.time] 50)).cell? ⟨wr.heap.size, 2, none⟩ = some (.bool x.house) := HKX4.out.cell 2
        have x3 : (wr.alloc (.cells #[.int .i64 x.at_, .string (bstr x.who), .bool x.house, .string (bstr x.key), .int .i64 x.time] 50)).cell? ⟨wr.heap.size, 3, none⟩ = some (.string (bstr x.key)) := HKX4.out.cell 3
        have x4 : (wr.alloc (.cells #[.int .i64 x.at_, .string (bstr x.who), .bool x.house, .string (bstr x.key), .int .i64 x.time] 50)).cell? ⟨wr.heap.size, 4, none⟩ = some (.int .i64 x.time) := HKX4.out.cell 4
        go_wp2_with fail
        clear c0 c1 c2 c3 c4 x0 x1 x2 x3 x4
        obtain ⟨xb, hxb⟩ : ∃ xb, xb = wr.heap.size := ⟨_, rfl⟩
        have HXB := Lib.hid hxb
        rw [← hxb] at HKX4 ⊢
        clear hxb
        generalize (wr.alloc (.cells #[.int .i64 x.at_, .string (bstr x.who), .bool x.house, .string (bstr x.key), .int .i64 x.time] 50)) = wr4 at *
        have hxk9 : x.key.length ≤ 9223372036854775807 := hxk
        refine (sees_any vt t vl l x x.at_ wr4 (Rp.ext _ HT.out HB4.out) (Rp.ext _ H0.out HB4.out) HTG.out HRG.out hxk9).mono ?_
        rintro e wr5 ⟨rfl, hb⟩
        have HB5 := Lib.hid (HB4.out.trans (hb.mono HB4.out.size))
        have HKX5 := Lib.hid (HKX4.out.same (same_below hb) HKX4.out.lt)
        have HO5 := Lib.hid (own_below HO4.out hb)
        have HWS5 := Lib.hid (Nat.le_trans HWS4.out hb.size)
        clear hb
        cases hq : shB t l x x.at_ with
        | false =>
          have HE := Lib.hid (selL_no (n := k) (p := hiP t l s at_) (HP.out.trans (by rw [hq]; rfl)))
          go_wp2_with fail
          go_roundw
          case rel => first | exact ⟨k + 1, by omega, by go_num, by rw [HE.out]; exact HO5, HB5, HWS5⟩ | (repeat (apply Exists.intro); (refine And.intro ?_ ?_; rotate_left; (repeat' (first | exact rfl | apply And.intro)); exact ⟨k + 1, by omega, by go_num, by rw [HE.out]; exact HO5, HB5, HWS5⟩))
          case measure => simp [intOf]; omega
        | true =>
          have x0 : wr5.cell? ⟨xb, 0, none⟩ = some (.int .i64 x.at_) := HKX5.out.cell 0
          have x1 : wr5.cell? ⟨xb, 1, none⟩ = some (.string (bstr x.who)) := HKX5.out.cell 1
          have x2 : wr5.cell? ⟨xb, 2, none⟩ = some (.bool x.house) := HKX5.out.cell 2
          have x3 : wr5.cell? ⟨xb, 3, none⟩ = some (.string (bstr x.key)) := HKX5.out.cell 3
          have x4 : wr5.cell? ⟨xb, 4, none⟩ = some (.int .i64 x.time) := HKX5.out.cell 4
          have HQ := Lib.hid hq
          clear hq
          go_wp2_with fail
          clear x0 x1 x2 x3 x4
          refine (sees_any vt t vl l x at_ wr5 (Rp.ext _ HT.out HB5.out) (Rp.ext _ H0.out HB5.out) HTG.out HRG.out hxk9).mono ?_
          rintro e wr6 ⟨rfl, hb⟩
          have HB6 := Lib.hid (HB5.out.trans (hb.mono HB5.out.size))
          have HKX6 := Lib.hid (HKX5.out.same (same_below hb) HKX5.out.lt)
          have HO6 := Lib.hid (own_below HO5.out hb)
          have HWS6 := Lib.hid (Nat.le_trans HWS5.out hb.size)
          clear hb
          cases hq : shB t l x at_ with
          | true =>
            have HE := Lib.hid (selL_no (n := k) (p := hiP t l s at_) (HP.out.trans (by rw [hq, HQ.out]; rfl)))
            go_wp2_with fail
            go_roundw
            case rel => first | exact ⟨k + 1, by omega, by go_num, by rw [HE.out]; exact HO6, HB6, HWS6⟩ | (repeat (apply Exists.intro); (refine And.intro ?_ ?_; rotate_left; (repeat' (first | exact rfl | apply And.intro)); exact ⟨k + 1, by omega, by go_num, by rw [HE.out]; exact HO6, HB6, HWS6⟩))
            case measure => simp [intOf]; omega
          | false =>
            have HE := Lib.hid (selL_yes (n := k) (p := hiP t l s at_) (HP.out.trans (by rw [hq, HQ.out]; rfl)))
            have hbs : w1.heap.size ≤ wr6.heap.size := HWS6.out
            go_wp2_with (at_builtin; go_must (refine app_new (w := wr6) rfl (.tmp 61) (.tmp 63) 52 rfl 3 (.int .i64 0) 1 8 Tryd.underlying52 int_info rfl (by decide) (m := 1) [.int .i64 (k : Int)] HO6.out hbs rfl rfl rfl (by decide) (by simp [Value.oneCell']) (by unfold maxLen; omega) (by omega) ?_); intro g7 c7 w7 HO7 HG7 HE7 HL7)
            have HB7 := Lib.hid (HB6.out.grown HG7.out HB6.out.size (fun g hg => by have h1 := (HO6.out.lt g hg).1; have h2 := HB1.out.size; omega))
            have HWS7 := Lib.hid (Nat.le_trans hbs HG7.out.size)
            go_roundw
            case rel => first | exact ⟨k + 1, by omega, by go_num, by rw [HE.out.1, HE.out.2]; exact HO7, HB7, HWS7⟩ | (repeat (apply Exists.intro); (refine And.intro ?_ ?_; rotate_left; (repeat' (first | exact rfl | apply And.intro)); exact ⟨k + 1, by omega, by go_num, by rw [HE.out.1, HE.out.2]; exact HO7, HB7, HWS7⟩))
            case measure => simp [intOf]; omega
      · obtain rfl : k = s.length := by omega
        go_wp2_with fail
        go_ret2
        exact ⟨_, by rw [HF.out]; rfl, by rw [HV.out]; exact ints_read HO.out (fun j hj => by have := selL_lt _ _ j hj; omega), HB.out⟩
end Go.Proofs.YtmlhpemgpndppaaDoor
