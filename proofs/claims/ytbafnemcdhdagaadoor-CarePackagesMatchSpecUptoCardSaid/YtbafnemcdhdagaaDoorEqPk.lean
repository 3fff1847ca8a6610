/-
  'slices.Equal' at defects and at entries: true just if both read as the same list. It only reads.
-/
import Derived.Test.YtbafnemcdhdagaaDoorProg
import Derived.Test.YtbafnemcdhdagaaDoorWrongP
import Derived.Test.YtbafnemcdhdagaaDoorEqS
namespace Go.Proofs.YtbafnemcdhdagaaDoor
open Go.RowKit
set_option linter.unusedVariables false
set_option linter.unusedSimpArgs false

instance : DecidableEq Def := fun a b => decidable_of_iff (a.path = b.path ∧ a.kind = b.kind) (by cases a; cases b; simp)
instance : DecidableEq Ent := fun a b => decidable_of_iff (a.path = b.path ∧ a.size = b.size ∧ a.digest = b.digest) (by cases a; cases b; simp)
theorem def_open {w : World} {S : Nat → Prop} {us : List Value} {c : Def} (h : defRp.ok w S us c) : us = [.string (bstr c.path), .int .i64 c.kind] := by
  obtain ⟨_, _, rfl, ⟨rfl, _⟩, ⟨rfl, _⟩⟩ := h
  rfl
theorem ent_open' {w : World} {S : Nat → Prop} {us : List Value} {c : Ent} (h : entRp.ok w S us c) : us = [.string (bstr c.path), .int .i64 c.size, .string (bstr c.digest)] := (ent_open h).1
set_option maxRecDepth 100000 in
set_option maxHeartbeats 1000000 in
theorem eqDefs_any (v1 v2 : Value) (a b : List Def) (w : World) (S T : Nat → Prop) (h1 : (Rp.sl defRp).ok w S [v1] a) (h2 : (Rp.sl defRp).ok w T [v2] b) :
    Calls Tryd.prog 28 #[v1, v2] w fun e w' => e = .returned (.bool (decide (a = b))) ∧ ∃ n, w' = w.drewN n := by
  obtain ⟨A, c, rfl, hl1, hc1, _⟩ := Rp.sl_open h1
  obtain ⟨B, d, rfl, hl2, hc2, _⟩ := Rp.sl_open h2
  unfold maxLen at hc1 hc2
  by_cases hlen : a.length = b.length
  · have hab : ((a.length : Int) != (b.length : Int)) = false := by simp [hlen]
    have HL := Lib.hid hlen
    clear hlen
    go_enter Tryd.func28, Tryd.ntmps28
    go_wp2
    go_loopw [13] (fun i wr => ∃ k n : Nat, k ≤ a.length ∧ i = .int .i64 k ∧ Hid (a.take k = b.take k) ∧ wr = w.drewN n) (fun i _ => a.length - (intOf i).toNat)
    case atStart => exact ⟨0, 0, Nat.zero_le _, rfl, rfl, rfl⟩
    case round =>
      obtain ⟨k, n, hk, rfl, HT, rfl⟩ := hrel
      by_cases hlt : k < a.length
      · have hlb : k < b.length := by rw [← HL.out]; exact hlt
        obtain ⟨ad1, us1, rfl, _, _, hu1, hcell1⟩ := Rp.sl_at h1 hlt
        obtain ⟨ad2, us2, rfl, _, _, hu2, hcell2⟩ := Rp.sl_at h2 hlb
        rw [def_open hu1] at hcell1
        rw [def_open hu2] at hcell2
        have fin : ∀ n', a[k] ≠ b[k] → (Ending.returned (.bool false) : Ending) = .returned (.bool (decide (a = b))) ∧ ∃ m, w.drewN n' = w.drewN m := fun n' h =>
          ⟨by rw [decide_eq_false (ne_of_get hlt hlb h)], n', rfl⟩
        obtain ⟨x, hxe⟩ : ∃ x, a[k] = x := ⟨_, rfl⟩
        obtain ⟨y, hye⟩ : ∃ y, b[k] = y := ⟨_, rfl⟩
        rw [hxe] at hcell1 fin
        rw [hye] at hcell2 fin
        have c10 : w.cell? (ad1.add (k * 2)) = some (.string (bstr x.path)) := hcell1 0 _ rfl
        have c11 : w.cell? (ad1.add (k * 2 + 1)) = some (.int .i64 x.kind) := hcell1 1 _ rfl
        rw [add_fld _ _ _ (by omega)] at c11
        have c20 : w.cell? (ad2.add (k * 2)) = some (.string (bstr y.path)) := hcell2 0 _ rfl
        have c21 : w.cell? (ad2.add (k * 2 + 1)) = some (.int .i64 y.kind) := hcell2 1 _ rfl
        rw [add_fld _ _ _ (by omega)] at c21
        have HXE := Lib.hid hxe
        have HYE := Lib.hid hye
        have HF : Hid (∀ n', (x.path ≠ y.path ∨ x.kind ≠ y.kind) → (Ending.returned (.bool false) : Ending) = .returned (.bool (decide (a = b))) ∧ ∃ m, w.drewN n' = w.drewN m) := Lib.hid (fun n' h => fin n' (fun e => by subst e; simp at h))
        clear hcell1 hcell2 hu1 hu2 hxe hye fin
        clear h1 h2 hab
        by_cases e0 : x.path = y.path
        · have b0 : ((bstr x.path).toList == (bstr y.path).toList) = true := str_beq (congrArg bstr e0)
          have E0 := Lib.hid e0
          clear e0
          by_cases e1 : x.kind = y.kind
          · have b1 : (x.kind == y.kind) = true := beq_iff_eq.2 e1
            have E1 := Lib.hid e1
            have HE : Hid (x = y) := Lib.hid (by have := And.intro E0.out E1.out; cases x; cases y; simp only at this; simp [this])
            clear HF
            go_wp2
            go_region
            all_goals go_wp2
            all_goals go_roundw
            all_goals first
              | exact ⟨k + 1, _, by omega, by go_num, take_eq_succ HT.out hlt hlb (by rw [HXE.out, HYE.out]; exact HE.out), rfl⟩
              | (simp [intOf]; omega)
          · have b1 : (x.kind == y.kind) = false := by rw [beq_eq_false_iff_ne]; exact e1
            have E1 := Lib.hid e1
            go_wp2
            go_region
            all_goals go_wp2
            all_goals go_ret
            all_goals exact HF.out _ (.inr (E1.out))
        · have b0 : ((bstr x.path).toList == (bstr y.path).toList) = false := str_bne (fun e => e0 (bstr_inj e))
          have E0 := Lib.hid e0
          clear e0
          go_wp2
          go_region
          all_goals go_wp2
          all_goals go_ret
          all_goals exact HF.out _ (.inl E0.out)
      · have hd : decide (a = b) = true := decide_eq_true (eq_of_takes HT.out (by omega) HL.out)
        clear h1 h2 hab
        go_wp2
        go_ret
        exact ⟨by rw [hd]; rfl, _, rfl⟩
  · have hab : ((a.length : Int) != (b.length : Int)) = true := by simp; omega
    have hd : decide (a = b) = false := decide_eq_false (by rintro rfl; exact hlen rfl)
    clear hlen
    go_enter Tryd.func28, Tryd.ntmps28
    go_wp2
    go_ret
    exact ⟨by rw [hd]; rfl, 0, rfl⟩
set_option maxRecDepth 100000 in
set_option maxHeartbeats 1000000 in
theorem eqEnts_any (v1 v2 : Value) (a b : List Ent) (w : World) (S T : Nat → Prop) (h1 : (Rp.sl entRp).ok w S [v1] a) (h2 : (Rp.sl entRp).ok w T [v2] b) :
    Calls Tryd.prog 73 #[v1, v2] w fun e w' => e = .returned (.bool (decide (a = b))) ∧ ∃ n, w' = w.drewN n := by
  obtain ⟨A, c, rfl, hl1, hc1, _⟩ := Rp.sl_open h1
  obtain ⟨B, d, rfl, hl2, hc2, _⟩ := Rp.sl_open h2
  unfold maxLen at hc1 hc2
  by_cases hlen : a.length = b.length
  · have hab : ((a.length : Int) != (b.length : Int)) = false := by simp [hlen]
    have HL := Lib.hid hlen
    clear hlen
    go_enter Tryd.func73, Tryd.ntmps73
    go_wp2
    go_loopw [13] (fun i wr => ∃ k n : Nat, k ≤ a.length ∧ i = .int .i64 k ∧ Hid (a.take k = b.take k) ∧ wr = w.drewN n) (fun i _ => a.length - (intOf i).toNat)
    case atStart => exact ⟨0, 0, Nat.zero_le _, rfl, rfl, rfl⟩
    case round =>
      obtain ⟨k, n, hk, rfl, HT, rfl⟩ := hrel
      by_cases hlt : k < a.length
      · have hlb : k < b.length := by rw [← HL.out]; exact hlt
        obtain ⟨ad1, us1, rfl, _, _, hu1, hcell1⟩ := Rp.sl_at h1 hlt
        obtain ⟨ad2, us2, rfl, _, _, hu2, hcell2⟩ := Rp.sl_at h2 hlb
        rw [ent_open' hu1] at hcell1
        rw [ent_open' hu2] at hcell2
        have fin : ∀ n', a[k] ≠ b[k] → (Ending.returned (.bool false) : Ending) = .returned (.bool (decide (a = b))) ∧ ∃ m, w.drewN n' = w.drewN m := fun n' h =>
          ⟨by rw [decide_eq_false (ne_of_get hlt hlb h)], n', rfl⟩
        obtain ⟨x, hxe⟩ : ∃ x, a[k] = x := ⟨_, rfl⟩
        obtain ⟨y, hye⟩ : ∃ y, b[k] = y := ⟨_, rfl⟩
        rw [hxe] at hcell1 fin
        rw [hye] at hcell2 fin
        have c10 : w.cell? (ad1.add (k * 3)) = some (.string (bstr x.path)) := hcell1 0 _ rfl
        have c11 : w.cell? (ad1.add (k * 3 + 1)) = some (.int .i64 x.size) := hcell1 1 _ rfl
        rw [add_fld _ _ _ (by omega)] at c11
        have c12 : w.cell? (ad1.add (k * 3 + 2)) = some (.string (bstr x.digest)) := hcell1 2 _ rfl
        rw [add_fld _ _ _ (by omega)] at c12
        have c20 : w.cell? (ad2.add (k * 3)) = some (.string (bstr y.path)) := hcell2 0 _ rfl
        have c21 : w.cell? (ad2.add (k * 3 + 1)) = some (.int .i64 y.size) := hcell2 1 _ rfl
        rw [add_fld _ _ _ (by omega)] at c21
        have c22 : w.cell? (ad2.add (k * 3 + 2)) = some (.string (bstr y.digest)) := hcell2 2 _ rfl
        rw [add_fld _ _ _ (by omega)] at c22
        have HXE := Lib.hid hxe
        have HYE := Lib.hid hye
        have HF : Hid (∀ n', (x.path ≠ y.path ∨ x.size ≠ y.size ∨ x.digest ≠ y.digest) → (Ending.returned (.bool false) : Ending) = .returned (.bool (decide (a = b))) ∧ ∃ m, w.drewN n' = w.drewN m) := Lib.hid (fun n' h => fin n' (fun e => by subst e; simp at h))
        clear hcell1 hcell2 hu1 hu2 hxe hye fin
        clear h1 h2 hab
        by_cases e0 : x.path = y.path
        · have b0 : ((bstr x.path).toList == (bstr y.path).toList) = true := str_beq (congrArg bstr e0)
          have E0 := Lib.hid e0
          clear e0
          by_cases e1 : x.size = y.size
          · have b1 : (x.size == y.size) = true := beq_iff_eq.2 e1
            have E1 := Lib.hid e1
            by_cases e2 : x.digest = y.digest
            · have b2 : ((bstr x.digest).toList == (bstr y.digest).toList) = true := str_beq (congrArg bstr e2)
              have E2 := Lib.hid e2
              clear e2
              have HE : Hid (x = y) := Lib.hid (by have := And.intro E0.out (And.intro E1.out E2.out); cases x; cases y; simp only at this; simp [this])
              clear HF
              go_wp2
              go_region
              all_goals go_wp2
              all_goals go_roundw
              all_goals first
                | exact ⟨k + 1, _, by omega, by go_num, take_eq_succ HT.out hlt hlb (by rw [HXE.out, HYE.out]; exact HE.out), rfl⟩
                | (simp [intOf]; omega)
            · have b2 : ((bstr x.digest).toList == (bstr y.digest).toList) = false := str_bne (fun e => e2 (bstr_inj e))
              have E2 := Lib.hid e2
              clear e2
              go_wp2
              go_region
              all_goals go_wp2
              all_goals go_ret
              all_goals exact HF.out _ (.inr (.inr (E2.out)))
          · have b1 : (x.size == y.size) = false := by rw [beq_eq_false_iff_ne]; exact e1
            have E1 := Lib.hid e1
            go_wp2
            go_region
            all_goals go_wp2
            all_goals go_ret
            all_goals exact HF.out _ (.inr (.inl E1.out))
        · have b0 : ((bstr x.path).toList == (bstr y.path).toList) = false := str_bne (fun e => e0 (bstr_inj e))
          have E0 := Lib.hid e0
          clear e0
          go_wp2
          go_region
          all_goals go_wp2
          all_goals go_ret
          all_goals exact HF.out _ (.inl E0.out)
      · have hd : decide (a = b) = true := decide_eq_true (eq_of_takes HT.out (by omega) HL.out)
        clear h1 h2 hab
        go_wp2
        go_ret
        exact ⟨by rw [hd]; rfl, _, rfl⟩
  · have hab : ((a.length : Int) != (b.length : Int)) = true := by simp; omega
    have hd : decide (a = b) = false := decide_eq_false (by rintro rfl; exact hlen rfl)
    clear hlen
    go_enter Tryd.func73, Tryd.ntmps73
    go_wp2
    go_ret
    exact ⟨by rw [hd]; rfl, 0, rfl⟩
end Go.Proofs.YtbafnemcdhdagaaDoor
