/-
  Items: how a list of names reads; checkItems of both packages of chapter 11.
-/
import Derived.Test.YtdeeiifcjbmmiaaDoorProg
import Derived.Test.YtdeeiifcjbmmiaaDoorName
import Derived.Test.YtdeeiifcjbmmiaaDoorFirstF
import Derived.Test.YtdeeiifcjbmmiaaDoorRows11
import Derived.Test.YtdeeiifcjbmmiaaDoorPlacP
import Derived.Test.YtdeeiifcjbmmiaaDoorWithin
import Derived.Test.YtdeeiifcjbmmiaaDoorNest
import Derived.Test.YtdeeiifcjbmmiaaDoorOpen
namespace Go.Proofs.YtdeeiifcjbmmiaaDoor
open Go.RowKit
set_option linter.unusedVariables false
set_option linter.unusedSimpArgs false

def namesF (l : List (List UInt8)) (i : Nat) : Int :=
  if isNm (l.getD i default) = false then 5 else if 0 < i ∧ sle (l.getD i default) (l.getD (i - 1) default) = true then 8 else 0
def itemsFault (l : List (List UInt8)) (many : Int) : Int := if 3000 < l.length then 2 else if firstF (namesF l) l.length ≠ 0 then firstF (namesF l) l.length else if withinB many 1 50 = false then 1 else 0
def namesRp : Rp (List (List UInt8)) := (Rp.sl Rp.str).via fun r => r.map bstr
theorem opens_names : Opens Tryd.prog 23 namesRp := by
  refine opens_via _ (fun (p : List ByteArray) => p.map fun s => s.data.toList) (fun p => by rw [List.map_map]; exact List.map_id'' (fun s => bstr_eq s) p) ?_
  exact opens_sl Tryd.underlying23 (by kernel_rfl) (by decide) (of_decide_eq_true (by kernel_rfl)) (opens_str Tryd.underlying9)
theorem names_open {w : World} {S : Nat → Prop} {v : Value} {l : List (List UInt8)} (h : namesRp.ok w S [v] l) : ∃ A c, v = .slice A l.length c ∧ l.length ≤ c ∧ c ≤ maxLen ∧ (A = none → c = 0) := by
  obtain ⟨A, c, rfl, h1, h2, h3⟩ := Rp.sl_open (R := Rp.str) h
  rw [List.length_map] at h1 ⊢
  exact ⟨A, c, rfl, h1, h2, h3⟩
theorem names_at {w : World} {S : Nat → Prop} {v : Value} {l : List (List UInt8)} (h : namesRp.ok w S [v] l) {k : Nat} (hk : k < l.length) : ∃ ad c, v = .slice (some ad) l.length c ∧ S ad.block ∧ w.cell? (ad.add k) = some (.string (bstr l[k])) ∧ l[k].length ≤ maxLen := by
  obtain ⟨A, c, rfl, _⟩ := names_open h
  obtain ⟨ad, u, rfl, hb, hu, hcell⟩ := Rp.sl_at1 (R := Rp.str) rfl h (k := k) (by rw [List.length_map]; exact hk)
  obtain ⟨e, h1⟩ := hu
  injection e with e
  subst e
  rw [List.getElem_map] at hcell h1
  exact ⟨ad, c, rfl, hb, hcell, h1⟩
section
variable {l : List (List UInt8)} {i : Nat}
theorem namesF_1 (hi : i < l.length) (h : isNm l[i] = false) : namesF l i = 5 := by rw [namesF, getD_at _ _ hi, if_pos h]
theorem namesF_2 (hi : i < l.length) (h : isNm l[i] = true) (h0 : 0 < i) (h1 : sle l[i] (l[i - 1]'(by omega)) = true) : namesF l i = 8 := by
  rw [namesF, getD_at _ _ hi, getD_at _ _ (show i - 1 < l.length by omega), if_neg (by rw [h]; decide), if_pos ⟨h0, h1⟩]
theorem namesF_3 (hi : i < l.length) (h : isNm l[i] = true) (h1 : ¬ (0 < i ∧ sle l[i] (l[i - 1]'(by omega)) = true)) : namesF l i = 0 := by
  rw [namesF, getD_at _ _ hi, getD_at _ _ (show i - 1 < l.length by omega), if_neg (by rw [h]; decide), if_neg h1]
theorem itemsFault_at {many : Int} (hl : ¬ 3000 < l.length) (hi : i < l.length) (hS : ∀ j, j < i → namesF l j = 0) {f : Int} (hf : namesF l i = f) (hn : f ≠ 0) : itemsFault l many = f := by
  have e := firstF_at hi hS (by rw [hf]; exact hn)
  rw [hf] at e
  rw [itemsFault, if_neg hl, e, if_pos hn]
theorem itemsFault_end {many : Int} (hl : ¬ 3000 < l.length) (hS : ∀ j, j < l.length → namesF l j = 0) : itemsFault l many = if withinB many 1 50 = false then 1 else 0 := by
  rw [itemsFault, if_neg hl, firstF_ok hS, if_neg (by decide)]
end
theorem items_ok {l : List (List UInt8)} {many : Int} (h : itemsFault l many = 0) : l.length ≤ 3000 ∧ (1 ≤ many ∧ many ≤ 50) ∧ (∀ x ∈ l, isNm x = true) ∧ l.Pairwise (fun a b => Op.bytesLess a b = true) := by
  unfold itemsFault at h
  split at h
  · exact absurd h (by decide)
  rename_i h1
  split at h
  · rename_i h2; exact absurd h h2
  rename_i h2
  have h2 : firstF (namesF l) l.length = 0 := Decidable.byContradiction h2
  have hS := firstF_all h2
  split at h
  · exact absurd h (by decide)
  rename_i h3
  have hw : withinB many 1 50 = true := by cases e : withinB many 1 50 with | true => rfl | false => exact absurd e h3
  have hw := of_decide_eq_true hw
  have hnm : ∀ i (hi : i < l.length), isNm l[i] = true := fun i hi => by
    cases e : isNm l[i] with
    | true => rfl
    | false => have := hS i hi; rw [namesF_1 hi e] at this; exact absurd this (by decide)
  refine ⟨by omega, hw, fun x hx => ?_, ?_⟩
  · obtain ⟨i, hi, rfl⟩ := List.getElem_of_mem hx
    exact hnm i hi
  · refine pairwise_of_next (fun a b => Op.bytesLess a b = true) (fun a b c h1 h2 => bl_trans h1 h2) (fun i hi => ?_)
    have h1 := hS (i + 1) hi
    cases e : sle l[i + 1] l[i] with
    | true => rw [namesF_2 hi (hnm _ hi) (Nat.succ_pos _) e] at h1; exact absurd h1 (by decide)
    | false =>
      unfold sle at e
      rw [Bool.or_eq_false_iff, beq_eq_false_iff_ne] at e
      rcases slt_triS l[i] l[i + 1] with h | h | h
      · exact h
      · exact absurd h.symm e.2
      · have h' : Op.bytesLess l[i + 1] l[i] = true := h
        rw [e.1] at h'; exact absurd h' (by decide)
set_option maxRecDepth 100000 in
set_option maxHeartbeats 4000000 in
theorem checkItems_any (v : Value) (l : List (List UInt8)) (many : Int) (w : World) (h1 : namesRp.ok w (· < w.heap.size) [v] l) :
    Calls Tryd.prog 17 #[v, .int .i64 many] w fun e w' => e = .returned (.int .i64 (itemsFault l many)) ∧ Below w.heap.size w w' := by
  obtain ⟨A, c, rfl, hl, hc, _⟩ := names_open h1
  unfold maxLen at hc
  have H1 := Lib.hid h1
  clear h1
  by_cases h3 : 3000 < l.length
  · have HF : Hid (itemsFault l many = 2) := Lib.hid (if_pos h3)
    have h3' : (3000 : Int) < (l.length : Int) := by omega
    go_enter Tryd.func17, Tryd.ntmps17
    go_wp2_with fail
    go_ret
    exact ⟨by rw [HF.out]; rfl, Below.refl _ _⟩
  have h3' : ¬ (3000 : Int) < (l.length : Int) := by omega
  go_enter Tryd.func17, Tryd.ntmps17
  go_wp2_with fail
  go_loopw [12] (fun i wr => ∃ k : Nat, k ≤ l.length ∧ i = .int .i64 k ∧ Hid (∀ j, j < k → namesF l j = 0) ∧ Hid (Below w.heap.size w wr)) (fun i _ => l.length - (intOf i).toNat)
  case atStart => exact ⟨0, by omega, rfl, (fun j hj => absurd hj (by omega)), Below.refl _ _⟩
  case round =>
    obtain ⟨k, hk, rfl, HS, HB⟩ := hrel
    by_cases hlt : k < l.length
    · obtain ⟨ad, cc, e1, hadb, c0, hz⟩ := names_at (namesRp.below H1.out HB.out) hlt
      injection e1 with e1 _ e2
      subst e1 e2
      unfold maxLen at hz
      have hz2 : l[k].length ≤ 9223372036854775807 := by omega
      have F1 := Lib.hid (fun h => itemsFault_at (many := many) h3 hlt HS.out (namesF_1 hlt h) (by decide))
      have G4 := Lib.hid (fun h h2 h3' => itemsFault_at (many := many) h3 hlt HS.out (namesF_2 hlt h h2 h3') (by decide))
      have G5 := Lib.hid (fun h h2 => firstF_step HS.out (namesF_3 hlt h h2))
      generalize hx : l[k] = x at *
      clear hx
      go_wp2_with fail
      refine (isName_any x _ hz2).mono ?_
      rintro e w5 ⟨rfl, hb5⟩
      have HB5 := Lib.hid (HB.out.trans (hb5.mono HB.out.size))
      clear hb5
      cases q1 : isNm x with
      | false =>
        have HF := Lib.hid (F1.out q1)
        clear q1
        go_wp2_with fail
        go_ret
        exact ⟨by rw [HF.out]; rfl, HB5.out⟩
      | true =>
      have HN := Lib.hid q1
      clear q1 F1
      by_cases hk0 : k = 0
      · have F5 := Lib.hid (G5.out HN.out (fun h => absurd h.1 (by omega)))
        have hk0' : ¬ (0 : Int) < (k : Int) := by omega
        have hk0n : ¬ 0 < k := by omega
        clear G4 G5 hk0
        go_wp2_with fail
        go_roundw
        case rel => exact ⟨k + 1, by omega, by go_num, F5, HB5⟩
        case measure => simp [intOf]; omega
      · obtain ⟨m, rfl⟩ : ∃ m, k = m + 1 := ⟨k - 1, by omega⟩
        have hm : m < l.length := by omega
        obtain ⟨ad', c', e1, hadb', p0, _⟩ := names_at (namesRp.below H1.out HB5.out) hm
        cases e1
        simp only [Nat.add_sub_cancel] at G4 G5
        have F4' : sle x l[m] = true → itemsFault l many = 8 := fun h => G4.out HN.out (by omega) h
        have F5' : sle x l[m] = false → ∀ j, j < m + 1 + 1 → namesF l j = 0 := fun h => G5.out HN.out (fun e => by rw [h] at e; exact absurd e.2 (by decide))
        clear G4 G5
        generalize l[m] = y at *
        have F4 := Lib.hid F4'
        have F5q := Lib.hid F5'
        clear F4' F5'
        have hk0' : (0 : Int) < (m : Int) + 1 := by omega
        have hkm : IntKind.i64.wrap ((m : Int) + 1 - 1) = m := by rw [Int.add_sub_cancel]; exact IntWalk.i64_in _ (by omega)
        have hkm2 : IntKind.i64.wrap (m : Int) = m := IntWalk.i64_in _ (by omega)
        have hm0 : (0 : Int) ≤ (m : Int) := by omega
        have hml : (m : Int) < (l.length : Int) := by omega
        cases q1 : slt x y with
        | true =>
          have b1 : Op.bytesLess (bstr x).toList (bstr y).toList = true := by rw [slt_eq]; exact q1
          have hs : sle x y = true := by unfold sle; unfold slt at q1; rw [q1]; rfl
          clear q1
          have HF := Lib.hid (F4.out hs)
          clear F4 F5q hs
          go_wp2_with fail
          go_ret
          exact ⟨by rw [HF.out]; rfl, HB5.out⟩
        | false =>
        have b1 : Op.bytesLess (bstr x).toList (bstr y).toList = false := by rw [slt_eq]; exact q1
        by_cases q2 : x = y
        · have b2 : ((bstr x).toList == (bstr y).toList) = true := str_beq (by rw [q2])
          have hs : sle x y = true := by unfold sle; rw [q2, beq_self_eq_true, Bool.or_true]
          clear q1 q2
          have HF := Lib.hid (F4.out hs)
          clear F4 F5q hs
          go_wp2_with fail
          go_ret
          exact ⟨by rw [HF.out]; rfl, HB5.out⟩
        · have b2 : ((bstr x).toList == (bstr y).toList) = false := str_bne (fun e => q2 (bstr_inj e))
          have hs : sle x y = false := by unfold sle; unfold slt at q1; rw [q1, beq_eq_false_iff_ne.2 q2]; rfl
          have F5 := Lib.hid (F5q.out hs)
          clear q1 q2 hs F4 F5q
          go_wp2_with fail
          go_roundw
          case rel => exact ⟨m + 1 + 1, by omega, by go_num, F5, HB5⟩
          case measure => simp [intOf]; omega
    · obtain rfl : k = l.length := by omega
      have HF0 := Lib.hid (itemsFault_end (many := many) h3 HS.out)
      go_wp2_with fail
      refine (cwithin_any many 1 50 _).mono ?_
      rintro e w6 ⟨rfl, rfl⟩
      cases hq : withinB many 1 50 with
      | false =>
        have HF : Hid (itemsFault l many = 1) := Lib.hid (HF0.out.trans (if_pos hq))
        clear hq HF0
        go_wp2_with fail
        go_ret
        exact ⟨by rw [HF.out]; rfl, HB.out⟩
      | true =>
        have HF : Hid (itemsFault l many = 0) := Lib.hid (HF0.out.trans (if_neg (by rw [hq]; decide)))
        clear hq HF0
        go_wp2_with fail
        go_ret
        exact ⟨by rw [HF.out]; rfl, HB.out⟩
end Go.Proofs.YtdeeiifcjbmmiaaDoor
