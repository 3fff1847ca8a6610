/-
  Teams: how they read; names in order; the number of a team, in package rights and in the reference of chapter 10.
-/
import Derived.Test.YtdljgjlkfihjdaaGreatDoorTeamPlain
import Derived.Test.YtdljgjlkfihjdaaGreatDoorShown
import Derived.Test.YtdljgjlkfihjdaaGreatDoorNest
namespace Go.Proofs.YtdljgjlkfihjdaaGreatDoor
open Go.RowKit
set_option linter.unusedVariables false
set_option linter.unusedSimpArgs false

def namesRp : Rp (List (List UInt8)) := (Rp.sl Rp.str).via fun r => r.map bstr
def teamRp : Rp Team := (Rp.pair Rp.str (Rp.pair namesRp namesRp)).via fun r => (bstr r.name, r.people, r.teams)
theorem team_open {w : World} {S : Nat → Prop} {us : List Value} {c : Team} (h : teamRp.ok w S us c) : ∃ vp vt, us = [.string (bstr c.name), vp, vt] ∧ c.name.length ≤ maxLen ∧ namesRp.ok w S [vp] c.people ∧ namesRp.ok w S [vt] c.teams := by
  obtain ⟨_, _, rfl, ⟨rfl, h1⟩, _, _, rfl, h2, h3⟩ := h
  obtain ⟨v1, rfl⟩ := List.length_eq_one_iff.1 (namesRp.len h2)
  obtain ⟨v2, rfl⟩ := List.length_eq_one_iff.1 (namesRp.len h3)
  exact ⟨v1, v2, rfl, h1, h2, h3⟩
theorem opens_names : Opens Tryz.prog 59 namesRp := by
  refine opens_via _ (fun (p : List ByteArray) => p.map fun s => s.data.toList) (fun p => by rw [List.map_map]; exact List.map_id'' (fun s => bstr_eq s) p) ?_
  exact opens_sl Tryz.underlying59 (by kernel_rfl) (by decide) (of_decide_eq_true (by kernel_rfl)) (opens_str Tryz.underlying9)
theorem opens_team : Opens Tryz.prog 69 teamRp := by
  refine opens_via _ (fun (p : ByteArray × List (List UInt8) × List (List UInt8)) => ⟨p.1.data.toList, p.2.1, p.2.2⟩) (fun p => by rw [bstr_eq]) ?_
  refine opens_struct Tryz.underlying69 (by kernel_rfl) ?_
  refine opensF_cons (by rfl) (by kernel_rfl) (opens_str Tryz.underlying9) ?_
  refine opensF_cons (by rfl) (by kernel_rfl) opens_names ?_
  exact opensF_one (by rfl) (by kernel_rfl) opens_names
theorem opens_teams : Opens Tryz.prog 22 (Rp.sl teamRp) := opens_sl Tryz.underlying22 (by kernel_rfl) (by decide) (of_decide_eq_true (by kernel_rfl)) opens_team
theorem names_open {w : World} {S : Nat → Prop} {v : Value} {l : List (List UInt8)} (h : namesRp.ok w S [v] l) : ∃ A c, v = .slice A l.length c ∧ l.length ≤ c ∧ c ≤ maxLen ∧ (A = none → c = 0) := by
  obtain ⟨A, c, rfl, h1, h2, h3⟩ := Rp.sl_open (R := Rp.str) h
  rw [List.length_map] at h1 ⊢
  exact ⟨A, c, rfl, h1, h2, h3⟩
theorem team_at {w : World} {S : Nat → Prop} {v : Value} {l : List Team} (h : (Rp.sl teamRp).ok w S [v] l) {k : Nat} (hk : k < l.length) :
    ∃ ad c Ap cp At ct, v = .slice (some ad) l.length c ∧ S ad.block ∧ w.cell? (ad.add (k * 3)) = some (.string (bstr l[k].name)) ∧ w.cell? ⟨(ad.add (k * 3)).block, (ad.add (k * 3)).off + 1, none⟩ = some (.slice Ap l[k].people.length cp) ∧
      w.cell? ⟨(ad.add (k * 3)).block, (ad.add (k * 3)).off + 2, none⟩ = some (.slice At l[k].teams.length ct) ∧ l[k].name.length ≤ maxLen ∧ namesRp.ok w S [.slice Ap l[k].people.length cp] l[k].people ∧ namesRp.ok w S [.slice At l[k].teams.length ct] l[k].teams := by
  obtain ⟨A, c, rfl, _⟩ := Rp.sl_open h
  obtain ⟨ad, us, rfl, _, hb, hu, hcell⟩ := Rp.sl_at h hk
  obtain ⟨vp, vt, rfl, hz, h2, h3⟩ := team_open hu
  have c0 := hcell 0 _ rfl
  have c1 := hcell 1 _ rfl
  have c2 := hcell 2 _ rfl
  rw [add_fld _ _ _ (by omega)] at c1 c2
  obtain ⟨Ap, cp, rfl, _⟩ := names_open h2
  obtain ⟨At, ct, rfl, _⟩ := names_open h3
  exact ⟨ad, c, Ap, cp, At, ct, rfl, hb, c0, c1, c2, hz, h2, h3⟩
theorem names_at {w : World} {S : Nat → Prop} {v : Value} {l : List (List UInt8)} (h : namesRp.ok w S [v] l) {k : Nat} (hk : k < l.length) : ∃ ad c, v = .slice (some ad) l.length c ∧ S ad.block ∧ w.cell? (ad.add k) = some (.string (bstr l[k])) ∧ l[k].length ≤ maxLen := by
  obtain ⟨A, c, rfl, _⟩ := names_open h
  obtain ⟨ad, u, rfl, hb, hu, hcell⟩ := Rp.sl_at1 (R := Rp.str) rfl h (k := k) (by rw [List.length_map]; exact hk)
  obtain ⟨e, h1⟩ := hu
  injection e with e
  subst e
  rw [List.getElem_map] at hcell h1
  exact ⟨ad, c, rfl, hb, hcell, h1⟩
section
variable {l : List (List UInt8)} {i : Nat}
theorem namesF_1 (hi : i < l.length) (h : isNm l[i] = false) : namesF l i = 5 := by rw [namesF, getD_at _ _ hi, if_pos h]
theorem namesF_2 (hi : i < l.length) (h : isNm l[i] = true) (h0 : 0 < i) (h1 : sle l[i] (l[i - 1]'(by omega)) = true) : namesF l i = 8 := by
  rw [namesF, getD_at _ _ hi, getD_at _ _ (show i - 1 < l.length by omega), if_neg (by rw [h]; decide), if_pos ⟨h0, h1⟩]
theorem namesF_3 (hi : i < l.length) (h : isNm l[i] = true) (h1 : ¬ (0 < i ∧ sle l[i] (l[i - 1]'(by omega)) = true)) : namesF l i = 0 := by
  rw [namesF, getD_at _ _ hi, getD_at _ _ (show i - 1 < l.length by omega), if_neg (by rw [h]; decide), if_neg h1]
theorem namesFault_at (hi : i < l.length) (hS : ∀ j, j < i → namesF l j = 0) {f : Int} (hf : namesF l i = f) (hn : f ≠ 0) : namesFault l = f := by
  rw [namesFault, firstF_at hi hS (by rw [hf]; exact hn), hf]
end
set_option maxRecDepth 100000 in
set_option maxHeartbeats 4000000 in
theorem checkNames_any (v : Value) (l : List (List UInt8)) (w : World) (h1 : namesRp.ok w (· < w.heap.size) [v] l) :
    Calls Tryz.prog 38 #[v] w fun e w' => e = .returned (.int .i64 (namesFault l)) ∧ Below w.heap.size w w' := by
  obtain ⟨A, c, rfl, hl, hc, _⟩ := names_open h1
  unfold maxLen at hc
  have H1 := Lib.hid h1
  clear h1
  go_enter Tryz.func38, Tryz.ntmps38
  go_wp2_with fail
  go_loopw [7] (fun i wr => ∃ k : Nat, k ≤ l.length ∧ i = .int .i64 k ∧ Hid (∀ j, j < k → namesF l j = 0) ∧ Hid (Below w.heap.size w wr)) (fun i _ => l.length - (intOf i).toNat)
  case atStart => exact ⟨0, by omega, rfl, (fun j hj => absurd hj (by omega)), Below.refl _ _⟩
  case round =>
    obtain ⟨k, hk, rfl, HS, HB⟩ := hrel
    by_cases hlt : k < l.length
    · obtain ⟨ad, cc, e1, hadb, c0, hz⟩ := names_at (namesRp.below H1.out HB.out) hlt
      injection e1 with e1 _ e2
      subst e1 e2
      unfold maxLen at hz
      have hz2 : l[k].length ≤ 9223372036854775807 := by omega
      have F1 := Lib.hid (fun h => namesFault_at hlt HS.out (namesF_1 hlt h) (by decide))
      have G4 := Lib.hid (fun h h2 h3 => namesFault_at hlt HS.out (namesF_2 hlt h h2 h3) (by decide))
      have G5 := Lib.hid (fun h h2 => firstF_step HS.out (namesF_3 hlt h h2))
      generalize hx : l[k] = x at *
      clear hx
      go_wp2_with fail
      refine (isName_any x _ hz2).mono ?_
      rintro e w5 ⟨rfl, hb5⟩
      have HB5 := Lib.hid (HB.out.trans (hb5.mono HB.out.size))
      clear hb5
      cases q1 : isNm x with
      | false =>
        have HF := Lib.hid (F1.out q1)
        clear q1
        go_wp2_with fail
        go_ret
        exact ⟨by rw [HF.out]; rfl, HB5.out⟩
      | true =>
      have HN := Lib.hid q1
      clear q1 F1
      by_cases hk0 : k = 0
      · have F5 := Lib.hid (G5.out HN.out (fun h => absurd h.1 (by omega)))
        have hk0' : ¬ (0 : Int) < (k : Int) := by omega
        have hk0n : ¬ 0 < k := by omega
        clear G4 G5 hk0
        go_wp2_with fail
        go_roundw
        case rel => first | exact ⟨k + 1, by omega, by go_num, F5.out, HB5.out⟩ | (repeat (apply Exists.intro); (refine And.intro ?_ ?_; rotate_left; (repeat' (first | exact rfl | apply And.intro)); exact ⟨k + 1, by omega, by go_num, F5.out, HB5.out⟩))
        case measure => simp [intOf]; omega
      · obtain ⟨m, rfl⟩ : ∃ m, k = m + 1 := ⟨k - 1, by omega⟩
        have hm : m < l.length := by omega
        obtain ⟨ad', c', e1, hadb', p0, _⟩ := names_at (namesRp.below H1.out HB5.out) hm
        cases e1
        simp only [Nat.add_sub_cancel] at G4 G5
        have F4' : sle x l[m] = true → namesFault l = 8 := fun h => G4.out HN.out (by omega) h
        have F5' : sle x l[m] = false → ∀ j, j < m + 1 + 1 → namesF l j = 0 := fun h => G5.out HN.out (fun e => by rw [h] at e; exact absurd e.2 (by decide))
        clear G4 G5
        generalize l[m] = y at *
        have F4 := Lib.hid F4'
        have F5q := Lib.hid F5'
        clear F4' F5'
        have hk0' : (0 : Int) < (m : Int) + 1 := by omega
        have hkm : IntKind.i64.wrap ((m : Int) + 1 - 1) = m := by rw [Int.add_sub_cancel]; exact IntWalk.i64_in _ (by omega)
        have hkm2 : IntKind.i64.wrap (m : Int) = m := IntWalk.i64_in _ (by omega)
        have hm0 : (0 : Int) ≤ (m : Int) := by omega
        have hml : (m : Int) < (l.length : Int) := by omega
        cases q1 : slt x y with
        | true =>
          have b1 : Op.bytesLess (bstr x).toList (bstr y).toList = true := by rw [slt_eq]; exact q1
          have hs : sle x y = true := by unfold sle; unfold slt at q1; rw [q1]; rfl
          clear q1
          have HF := Lib.hid (F4.out hs)
          clear F4 F5q hs
          go_wp2_with fail
          go_ret
          exact ⟨by rw [HF.out]; rfl, HB5.out⟩
        | false =>
        have b1 : Op.bytesLess (bstr x).toList (bstr y).toList = false := by rw [slt_eq]; exact q1
        by_cases q2 : x = y
        · have b2 : ((bstr x).toList == (bstr y).toList) = true := str_beq (by rw [q2])
          have hs : sle x y = true := by unfold sle; rw [q2, beq_self_eq_true, Bool.or_true]
          clear q1 q2
          have HF := Lib.hid (F4.out hs)
          clear F4 F5q hs
          go_wp2_with fail
          go_ret
          exact ⟨by rw [HF.out]; rfl, HB5.out⟩
        · have b2 : ((bstr x).toList == (bstr y).toList) = false := str_bne (fun e => q2 (bstr_inj e))
          have hs : sle x y = false := by unfold sle; unfold slt at q1; rw [q1, beq_eq_false_iff_ne.2 q2]; rfl
          have F5 := Lib.hid (F5q.out hs)
          clear q1 q2 hs F4 F5q
          go_wp2_with fail
          go_roundw
          case rel => first | exact ⟨m + 1 + 1, by omega, by go_num, F5.out, HB5.out⟩ | (repeat (apply Exists.intro); (refine And.intro ?_ ?_; rotate_left; (repeat' (first | exact rfl | apply And.intro)); exact ⟨m + 1 + 1, by omega, by go_num, F5.out, HB5.out⟩))
          case measure => simp [intOf]; omega
    · obtain rfl : k = l.length := by omega
      have HF : Hid (namesFault l = 0) := Lib.hid (firstF_ok HS.out)
      go_wp2_with fail
      go_ret
      exact ⟨by rw [HF.out]; rfl, HB.out⟩
set_option maxRecDepth 100000 in
set_option maxHeartbeats 4000000 in
theorem checkMembers_any (v : Value) (l : List (List UInt8)) (w : World) (h1 : namesRp.ok w (· < w.heap.size) [v] l) :
    Calls Tryz.prog 55 #[v] w fun e w' => e = .returned (.int .i64 (namesFault l)) ∧ Below w.heap.size w w' := by
  obtain ⟨A, c, rfl, hl, hc, _⟩ := names_open h1
  unfold maxLen at hc
  have H1 := Lib.hid h1
  clear h1
  go_enter Tryz.func55, Tryz.ntmps55
  go_wp2_with fail
  go_loopw [7] (fun i wr => ∃ k : Nat, k ≤ l.length ∧ i = .int .i64 k ∧ Hid (∀ j, j < k → namesF l j = 0) ∧ Hid (Below w.heap.size w wr)) (fun i _ => l.length - (intOf i).toNat)
  case atStart => exact ⟨0, by omega, rfl, (fun j hj => absurd hj (by omega)), Below.refl _ _⟩
  case round =>
    obtain ⟨k, hk, rfl, HS, HB⟩ := hrel
    by_cases hlt : k < l.length
    · obtain ⟨ad, cc, e1, hadb, c0, hz⟩ := names_at (namesRp.below H1.out HB.out) hlt
      injection e1 with e1 _ e2
      subst e1 e2
      unfold maxLen at hz
      have hz2 : l[k].length ≤ 9223372036854775807 := by omega
      have F1 := Lib.hid (fun h => namesFault_at hlt HS.out (namesF_1 hlt h) (by decide))
      have G4 := Lib.hid (fun h h2 h3 => namesFault_at hlt HS.out (namesF_2 hlt h h2 h3) (by decide))
      have G5 := Lib.hid (fun h h2 => firstF_step HS.out (namesF_3 hlt h h2))
      generalize hx : l[k] = x at *
      clear hx
      go_wp2_with fail
      refine (hNameB_any x _ hz2).mono ?_
      rintro e w5 ⟨rfl, hb5⟩
      have HB5 := Lib.hid (HB.out.trans (hb5.mono HB.out.size))
      clear hb5
      cases q1 : isNm x with
      | false =>
        have HF := Lib.hid (F1.out q1)
        clear q1
        go_wp2_with fail
        go_ret
        exact ⟨by rw [HF.out]; rfl, HB5.out⟩
      | true =>
      have HN := Lib.hid q1
      clear q1 F1
      by_cases hk0 : k = 0
      · have F5 := Lib.hid (G5.out HN.out (fun h => absurd h.1 (by omega)))
        have hk0' : ¬ (0 : Int) < (k : Int) := by omega
        have hk0n : ¬ 0 < k := by omega
        clear G4 G5 hk0
        go_wp2_with fail
        go_roundw
        case rel => first | exact ⟨k + 1, by omega, by go_num, F5.out, HB5.out⟩ | (repeat (apply Exists.intro); (refine And.intro ?_ ?_; rotate_left; (repeat' (first | exact rfl | apply And.intro)); exact ⟨k + 1, by omega, by go_num, F5.out, HB5.out⟩))
        case measure => simp [intOf]; omega
      · obtain ⟨m, rfl⟩ : ∃ m, k = m + 1 := ⟨k - 1, by omega⟩
        have hm : m < l.length := by omega
        obtain ⟨ad', c', e1, hadb', p0, _⟩ := names_at (namesRp.below H1.out HB5.out) hm
        cases e1
        simp only [Nat.add_sub_cancel] at G4 G5
        have F4' : sle x l[m] = true → namesFault l = 8 := fun h => G4.out HN.out (by omega) h
        have F5' : sle x l[m] = false → ∀ j, j < m + 1 + 1 → namesF l j = 0 := fun h => G5.out HN.out (fun e => by rw [h] at e; exact absurd e.2 (by decide))
        clear G4 G5
        generalize l[m] = y at *
        have F4 := Lib.hid F4'
        have F5q := Lib.hid F5'
        clear F4' F5'
        have hk0' : (0 : Int) < (m : Int) + 1 := by omega
        have hkm : IntKind.i64.wrap ((m : Int) + 1 - 1) = m := by rw [Int.add_sub_cancel]; exact IntWalk.i64_in _ (by omega)
        have hkm2 : IntKind.i64.wrap (m : Int) = m := IntWalk.i64_in _ (by omega)
        have hm0 : (0 : Int) ≤ (m : Int) := by omega
        have hml : (m : Int) < (l.length : Int) := by omega
        cases q1 : slt x y with
        | true =>
          have b1 : Op.bytesLess (bstr x).toList (bstr y).toList = true := by rw [slt_eq]; exact q1
          have hs : sle x y = true := by unfold sle; unfold slt at q1; rw [q1]; rfl
          clear q1
          have HF := Lib.hid (F4.out hs)
          clear F4 F5q hs
          go_wp2_with fail
          go_ret
          exact ⟨by rw [HF.out]; rfl, HB5.out⟩
        | false =>
        have b1 : Op.bytesLess (bstr x).toList (bstr y).toList = false := by rw [slt_eq]; exact q1
        by_cases q2 : x = y
        · have b2 : ((bstr x).toList == (bstr y).toList) = true := str_beq (by rw [q2])
          have hs : sle x y = true := by unfold sle; rw [q2, beq_self_eq_true, Bool.or_true]
          clear q1 q2
          have HF := Lib.hid (F4.out hs)
          clear F4 F5q hs
          go_wp2_with fail
          go_ret
          exact ⟨by rw [HF.out]; rfl, HB5.out⟩
        · have b2 : ((bstr x).toList == (bstr y).toList) = false := str_bne (fun e => q2 (bstr_inj e))
          have hs : sle x y = false := by unfold sle; unfold slt at q1; rw [q1, beq_eq_false_iff_ne.2 q2]; rfl
          have F5 := Lib.hid (F5q.out hs)
          clear q1 q2 hs F4 F5q
          go_wp2_with fail
          go_roundw
          case rel => first | exact ⟨m + 1 + 1, by omega, by go_num, F5.out, HB5.out⟩ | (repeat (apply Exists.intro); (refine And.intro ?_ ?_; rotate_left; (repeat' (first | exact rfl | apply And.intro)); exact ⟨m + 1 + 1, by omega, by go_num, F5.out, HB5.out⟩))
          case measure => simp [intOf]; omega
    · obtain rfl : k = l.length := by omega
      have HF : Hid (namesFault l = 0) := Lib.hid (firstF_ok HS.out)
      go_wp2_with fail
      go_ret
      exact ⟨by rw [HF.out]; rfl, HB.out⟩
set_option maxRecDepth 100000 in
set_option maxHeartbeats 2000000 in
theorem teamOf_any (v : Value) (l : List Team) (s : List UInt8) (w : World) (h1 : (Rp.sl teamRp).ok w (· < w.heap.size) [v] l) :
    Calls Tryz.prog 56 #[v, .string (bstr s)] w fun e w' => e = .returned (.int .i64 (teamIdx l s)) ∧ Below w.heap.size w w' := by
  obtain ⟨A, c, rfl, hl, hc, _⟩ := Rp.sl_open h1
  unfold maxLen at hc
  have H1 := Lib.hid h1
  clear h1
  go_enter Tryz.func56, Tryz.ntmps56
  go_wp2_with fail
  go_loopw [9] (fun i wr => ∃ k : Nat, k ≤ l.length ∧ i = .int .i64 k ∧ Hid (∀ j, (hj : j < k) → (hl : j < l.length) → l[j].name ≠ s) ∧ Hid (Below w.heap.size w wr)) (fun i _ => l.length - (intOf i).toNat)
  case atStart => exact ⟨0, by omega, rfl, (fun j hj => absurd hj (by omega)), Below.refl _ _⟩
  case round =>
    obtain ⟨k, hk, rfl, HS, HB⟩ := hrel
    by_cases hlt : k < l.length
    · obtain ⟨ad, cc, Ap, cp, At, ct, e1, hadb, c0, c1, c2, hz, hp, ht⟩ := team_at (Rp.below _ H1.out HB.out) hlt
      injection e1 with e1 _ e2
      subst e1 e2
      have HB4 := Lib.hid (HB.out.alloc HB.out.size (.cells #[.string (bstr l[k].name), .slice Ap l[k].people.length cp, .slice At l[k].teams.length ct] 69))
      have hkb := Blk.new wr 69 [.string (bstr l[k].name), .slice Ap l[k].people.length cp, .slice At l[k].teams.length ct]
      have d0 : _ = some (Value.string (bstr l[k].name)) := hkb.cell 0
      have G1 : Hid (l[k].name = s → teamIdx l s = (k : Int)) := Lib.hid (fun h => teamIdx_at hlt h (fun j hj => HS.out j hj (by omega)))
      have G2 : Hid (l[k].name ≠ s → ∀ j, (hj : j < k + 1) → (hl : j < l.length) → l[j].name ≠ s) := Lib.hid (fun h j hj hjl => by
        by_cases e : j = k
        · subst e; exact h
        · exact HS.out j (by omega) hjl)
      clear hkb hp ht
      generalize l[k].name = x at *
      generalize l[k].people.length = np at *
      generalize l[k].teams.length = nt at *
      by_cases q : x = s
      · have hb : ((bstr x).toList == (bstr s).toList) = true := str_beq (by rw [q])
        have HF := Lib.hid (G1.out q)
        clear q G1 G2
        go_wp2_with fail
        go_ret
        exact ⟨by rw [HF.out]; rfl, HB4.out⟩
      · have hb : ((bstr x).toList == (bstr s).toList) = false := str_bne (fun e => q (bstr_inj e))
        have F5 := Lib.hid (G2.out q)
        clear q G1 G2
        go_wp2_with fail
        go_roundw
        case rel => first | exact ⟨k + 1, by omega, by go_num, F5.out, HB4.out⟩ | (repeat (apply Exists.intro); (refine And.intro ?_ ?_; rotate_left; (repeat' (first | exact rfl | apply And.intro)); exact ⟨k + 1, by omega, by go_num, F5.out, HB4.out⟩))
        case measure => simp [intOf]; omega
    · obtain rfl : k = l.length := by omega
      have HF : Hid (teamIdx l s = -1) := Lib.hid (teamIdx_none (fun j hj => HS.out j hj hj))
      go_wp2_with fail
      go_ret
      exact ⟨by rw [HF.out]; rfl, HB.out⟩
set_option maxRecDepth 100000 in
set_option maxHeartbeats 1000000 in
theorem teamCmp_any (x : List UInt8) (vp vt : Value) (s : List UInt8) (w : World) (hvp : vp.oneCell' = true) (hvt : vt.oneCell' = true) :
    Calls Tryz.prog 44 #[.agg #[.string (bstr x), vp, vt], .string (bstr s)] w fun e w' => e = .returned (.int .i64 (scmp x s)) ∧ Below w.heap.size w w' := by
  have HB := Lib.hid ((Below.refl w.heap.size w).alloc (Nat.le_refl _) (.cells #[.string (bstr x), vp, vt] 69))
  have hk := Blk.new w 69 [.string (bstr x), vp, vt]
  have m0 : _ = some (Value.string (bstr x)) := hk.cell 0
  clear hk
  go_enter Tryz.func44, Tryz.ntmps44
  go_wp2_with fail
  refine (strCmp_any x s _).mono ?_
  rintro e w1 ⟨rfl, rfl⟩
  go_wp2_with fail
  go_ret
  exact ⟨rfl, HB.out⟩
def BsRet (l : List Team) (s : List UInt8) (e : Ending) : Prop := ∃ (i : Int) (b : Bool), e = .returned (.tuple #[.int .i64 i, .bool b]) ∧ (if b = true then i = teamIdx l s ∧ 0 ≤ i else teamIdx l s = -1)
set_option maxRecDepth 100000 in
set_option maxHeartbeats 4000000 in
theorem bsTeam_any (v : Value) (l : List Team) (s : List UInt8) (w : World) (h0 : (Rp.sl teamRp).ok w (· < w.heap.size) [v] l) (hs : TSorted l) (hm : l.length ≤ 100) :
    Calls Tryz.prog 43 #[v, .string (bstr s), .func (.func 44) #[] #[]] w fun e w' => BsRet l s e ∧ Below w.heap.size w w' := by
  obtain ⟨A, c, rfl, hl, hc, _⟩ := Rp.sl_open h0
  unfold maxLen at hc
  have H0 := Lib.hid h0
  have HS0 := Lib.hid hs
  clear h0 hs
  go_enter Tryz.func43, Tryz.ntmps43
  go_wp2_with fail
  go_loopw [9, 10] (fun vi vj wr => ∃ i j : Nat, i ≤ j ∧ j ≤ l.length ∧ vi = .int .i64 i ∧ vj = .int .i64 j ∧ Hid (∀ q, q < i → ∀ hq : q < l.length, scmp l[q].name s < 0) ∧ Hid (∀ q, j ≤ q → ∀ hq : q < l.length, 0 ≤ scmp l[q].name s) ∧ Hid (Below w.heap.size w wr)) (fun vi vj _ => (intOf vj).toNat - (intOf vi).toNat)
  case atStart => exact ⟨0, l.length, Nat.zero_le _, Nat.le_refl _, rfl, rfl, (fun q hq => absurd hq (by omega)), (fun q hq hl => absurd hl (by omega)), Below.refl _ _⟩
  case round =>
    obtain ⟨i, j, hij, hjl, rfl, rfl, HI, HJ, HB⟩ := hrel
    by_cases hlt : i < j
    · obtain ⟨m, hmm⟩ : ∃ m : Nat, m = (i + j) / 2 := ⟨_, rfl⟩
      have hml : m < l.length := by omega
      have hmi : i ≤ m ∧ m < j := by omega
      have HMI := Lib.hid (show ((i : Int) + (j : Int)) / 2 = (m : Int) by omega)
      obtain ⟨ad, c', Ap, cp, At, ct, e1, hadb, p0, p1, p2, hy, hpp, hpt⟩ := team_at (Rp.below _ H0.out HB.out) hml
      cases e1
      have hvp := namesRp.one hpp _ (List.mem_singleton.2 rfl)
      have hvt := namesRp.one hpt _ (List.mem_singleton.2 rfl)
      have HLO : Hid (scmp l[m].name s < 0 → ∀ q, q < m + 1 → ∀ hq : q < l.length, scmp l[q].name s < 0) := Lib.hid (fun hy q hq hql => by
        rcases Nat.lt_or_ge q m with h1 | h1
        · exact slt_scmp.1 (less_trans (HS0.out q m h1 hml) (slt_scmp.2 hy))
        · obtain rfl : q = m := by omega
          exact hy)
      have HHI : Hid (0 ≤ scmp l[m].name s → ∀ q, m ≤ q → ∀ hq : q < l.length, 0 ≤ scmp l[q].name s) := Lib.hid (fun hy q hq hql => by
        rcases Nat.lt_or_ge m q with h1 | h1
        · rcases Int.lt_or_le (scmp l[q].name s) 0 with he | he
          · have := slt_scmp.1 (less_trans (HS0.out m q h1 hql) (slt_scmp.2 he))
            omega
          · exact he
        · obtain rfl : q = m := by omega
          exact hy)
      clear hadb hpp hpt
      generalize l[m].name = y at *
      generalize l[m].people.length = np at *
      generalize l[m].teams.length = nt at *
      have raj : IntKind.i64.wrap (((i : Int) + (j : Int)) / 2 : Int) = (((i : Int) + (j : Int)) / 2 : Int) := by rw [IntKind.wrap_i64]; omega
      have rak : IntKind.i64.wrap (m : Int) = (m : Int) := by rw [IntKind.wrap_i64]; omega
      have hm0 : (0 : Int) ≤ (m : Int) := by omega
      have hmL : (m : Int) < (l.length : Int) := by omega
      rw [hmm] at p0 p1 p2
      clear hmm
      go_wp2_with fail
      refine (teamCmp_any y _ _ s _ hvp hvt).mono ?_
      rintro e w8 ⟨rfl, hb8⟩
      rw [HMI.out]
      have HB8 := Lib.hid (HB.out.trans (hb8.mono HB.out.size))
      clear hb8 p0 p1 p2
      generalize hcy : scmp y s = cy at *
      by_cases hy : cy < 0
      · have HL2 := Lib.hid (HLO.out hy)
        clear HLO HHI
        go_wp2_with fail
        go_roundw
        case rel => first | exact ⟨m + 1, j, by omega, by omega, by go_num, rfl, HL2.out, HJ.out, HB8.out⟩ | (repeat (apply Exists.intro); (refine And.intro ?_ ?_; rotate_left; (repeat' (first | exact rfl | apply And.intro)); exact ⟨m + 1, j, by omega, by omega, by go_num, rfl, HL2.out, HJ.out, HB8.out⟩))
        case measure => simp [intOf]; omega
      · have HL2 := Lib.hid (HHI.out (by omega))
        clear HLO HHI
        go_wp2_with fail
        go_roundw
        case rel => exact ⟨i, m, by omega, by omega, rfl, rfl, HI.out, HL2.out, HB8.out⟩
        case measure => simp [intOf]; omega
    · obtain rfl : i = j := by omega
      have HBEF : Hid (∀ q, (hq : q < i) → (hql : q < l.length) → l[q].name ≠ s) := Lib.hid (fun q hq hql e => by
        have := HI.out q hq hql
        rw [e] at this
        rcases scmp_tri s s with ⟨_, _, _, h4⟩ | ⟨h1, _⟩ | ⟨_, _, _, h4⟩
        · exact h4 rfl
        · omega
        · exact h4 rfl)
      by_cases hin : i < l.length
      · obtain ⟨ad, c', Ap, cp, At, ct, e1, hadb, p0, p1, p2, hy, hpp, hpt⟩ := team_at (Rp.below _ H0.out HB.out) hin
        cases e1
        have hvp := namesRp.one hpp _ (List.mem_singleton.2 rfl)
        have hvt := namesRp.one hpt _ (List.mem_singleton.2 rfl)
        have HEQ : Hid (scmp l[i].name s = 0 → teamIdx l s = (i : Int)) := Lib.hid (fun h => by
          rcases scmp_tri l[i].name s with ⟨h1, _⟩ | ⟨_, _, _, h4⟩ | ⟨h1, _⟩
          · omega
          · exact teamIdx_at hin h4 (fun q hq => HBEF.out q hq (by omega))
          · omega)
        have HNE : Hid (scmp l[i].name s ≠ 0 → teamIdx l s = -1) := Lib.hid (fun h => teamIdx_none (fun q hq e => by
          rcases Nat.lt_trichotomy q i with h1 | h1 | h1
          · exact HBEF.out q h1 hq e
          · subst h1
            rcases scmp_tri l[q].name s with ⟨_, _, _, h4⟩ | ⟨h1, _⟩ | ⟨_, _, _, h4⟩
            · exact h4 e
            · exact h h1
            · exact h4 e
          · have h2 := HJ.out i (Nat.le_refl _) hin
            have h3 := slt_scmp.1 (HS0.out i q h1 hq)
            rw [e] at h3
            omega))
        clear hadb hpp hpt HJ HI HBEF
        generalize l[i].name = y at *
        generalize l[i].people.length = np at *
        generalize l[i].teams.length = nt at *
        have rak : IntKind.i64.wrap (i : Int) = (i : Int) := by rw [IntKind.wrap_i64]; omega
        have hm0 : (0 : Int) ≤ (i : Int) := by omega
        have hmL : (i : Int) < (l.length : Int) := by omega
        go_wp2_with fail
        refine (teamCmp_any y _ _ s _ hvp hvt).mono ?_
        rintro e w8 ⟨rfl, hb8⟩
        have HB8 := Lib.hid (HB.out.trans (hb8.mono HB.out.size))
        clear hb8 p0 p1 p2
        generalize hcy : scmp y s = cy at *
        by_cases hy : cy = 0
        · have HL2 := Lib.hid (HEQ.out hy)
          subst hy
          clear HEQ HNE
          go_wp2_with fail
          go_ret2
          exact ⟨⟨_, _, rfl, by rw [if_pos rfl, HL2.out]; exact ⟨rfl, by omega⟩⟩, HB8.out⟩
        · have HL2 := Lib.hid (HNE.out hy)
          have hb : (cy == 0) = false := beq_eq_false_iff_ne.2 hy
          clear HEQ HNE hy
          go_wp2_with fail
          go_ret2
          exact ⟨⟨_, _, rfl, by rw [if_neg (by decide)]; exact HL2.out⟩, HB8.out⟩
      · have HL2 : Hid (teamIdx l s = -1) := Lib.hid (teamIdx_none (fun q hq => HBEF.out q (by omega) hq))
        have hmL : ¬ (i : Int) < (l.length : Int) := by omega
        clear HBEF HI HJ
        go_wp2_with fail
        go_ret2
        exact ⟨⟨_, _, rfl, by rw [if_neg (by decide)]; exact HL2.out⟩, HB.out⟩
set_option maxRecDepth 100000 in
set_option maxHeartbeats 1000000 in
theorem teamAt_any (v : Value) (l : List Team) (s : List UInt8) (w : World) (h0 : (Rp.sl teamRp).ok w (· < w.heap.size) [v] l) (hs : TSorted l) (hm : l.length ≤ 100) :
    Calls Tryz.prog 23 #[v, .string (bstr s)] w fun e w' => e = .returned (.int .i64 (teamIdx l s)) ∧ Below w.heap.size w w' := by
  go_enter Tryz.func23, Tryz.ntmps23
  go_wp2_with fail
  refine (bsTeam_any v l s w h0 hs hm).mono ?_
  rintro e w1 ⟨⟨i, b, rfl, h⟩, hb⟩
  have HB := Lib.hid hb
  clear hb
  cases b with
  | true =>
    rw [if_pos rfl] at h
    have HF := Lib.hid h.1
    clear h
    go_wp2_with fail
    go_ret
    exact ⟨by rw [← HF.out]; rfl, HB.out⟩
  | false =>
    rw [if_neg (by decide)] at h
    have HF := Lib.hid h
    clear h
    go_wp2_with fail
    go_ret
    exact ⟨by rw [HF.out]; rfl, HB.out⟩
end Go.Proofs.YtdljgjlkfihjdaaGreatDoor
