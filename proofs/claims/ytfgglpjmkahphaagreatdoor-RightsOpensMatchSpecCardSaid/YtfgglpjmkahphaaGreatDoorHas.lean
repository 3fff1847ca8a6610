/-
  'Has' and 'Ends' of the reference of chapter 10; the first moment of spans: plain facts.
-/
import Derived.Test.YtfgglpjmkahphaaGreatDoorSpans
namespace Go.Proofs.YtfgglpjmkahphaaGreatDoor
open Go.RowKit
set_option linter.unusedVariables false
set_option linter.unusedSimpArgs false

theorem st_at {w : World} {S : Nat → Prop} {v : Value} {l : List (Int × Int)} (h : (Rp.sl stRp).ok w S [v] l) {k : Nat} (hk : k < l.length) :
    ∃ ad c, v = .slice (some ad) l.length c ∧ S ad.block ∧ w.cell? (ad.add (k * 2)) = some (.int .i64 l[k].1) ∧ w.cell? ⟨(ad.add (k * 2)).block, (ad.add (k * 2)).off + 1, none⟩ = some (.int .i64 l[k].2) := by
  obtain ⟨A, c, rfl, _⟩ := Rp.sl_open h
  obtain ⟨ad, us, rfl, _, hb, hu, hcell⟩ := Rp.sl_at h hk
  obtain ⟨_, _, rfl, ⟨rfl, _⟩, ⟨rfl, _⟩⟩ := hu
  refine ⟨ad, c, rfl, hb, ?_, ?_⟩
  · have := hcell 0 _ rfl
    simpa [stRp, Rp.pair, Rp.int] using this
  · have := hcell 1 _ rfl
    have hadd := add_fld ad (k * 2) 1 (by decide)
    rw [← hadd]
    simpa [stRp, Rp.pair, Rp.int] using this
def hasB (xs : List (Int × Int)) (m : Int) : Bool := xs.any fun x => decide (x.1 ≤ m) && decide (m < x.2)
theorem hasB_iff {xs : List (Int × Int)} {m : Int} : hasB xs m = true ↔ InS xs m := by
  unfold hasB InS
  rw [List.any_eq_true]
  simp
theorem has_law {p : Int → Bool} {xs : List (Int × Int)} {m : Int} (h : SpOk p xs 253402300800) (h0 : 0 ≤ m ∧ m ≤ 253402300799) : hasB xs m = p m := by
  cases q : p m with
  | true => exact hasB_iff.2 ((h.mem m).2 ⟨h0.1, by omega, q⟩)
  | false =>
    cases q2 : hasB xs m with
    | false => rfl
    | true => have := ((h.mem m).1 (hasB_iff.1 q2)).2.2; rw [q] at this; cases this
def endsL (xs : List (Int × Int)) : List Int := xs.flatMap fun x => [x.1, x.2]
theorem endsL_len (xs : List (Int × Int)) : (endsL xs).length = xs.length * 2 := flat_len (f := fun x : Int × Int => [x.1, x.2]) (sz := 2) (fun _ => rfl) xs
theorem endsL_mem {xs : List (Int × Int)} {n : Int} (h : n ∈ endsL xs) : ∃ x ∈ xs, n = x.1 ∨ n = x.2 := by
  obtain ⟨x, hx, hn⟩ := List.mem_flatMap.1 h
  exact ⟨x, hx, by simpa using hn⟩
theorem endsL_pw : ∀ {xs : List (Int × Int)}, Sep xs → (endsL xs).Pairwise (· < ·)
  | [], _ => List.Pairwise.nil
  | x :: xs, h => by
    have ih := endsL_pw (sep_tail h)
    have hx := h.1 x (by simp)
    have hb : ∀ n ∈ endsL xs, x.2 < n := fun n hn => by
      obtain ⟨y, hy, e⟩ := endsL_mem hn
      have h1 := (List.pairwise_cons.1 h.2).1 y hy
      have h2 := h.1 y (List.mem_cons_of_mem _ hy)
      rcases e with e | e <;> omega
    show (x.1 :: x.2 :: endsL xs).Pairwise (· < ·)
    refine List.pairwise_cons.2 ⟨fun n hn => ?_, List.pairwise_cons.2 ⟨hb, ih⟩⟩
    rcases List.mem_cons.1 hn with e | e
    · omega
    · have := hb n e; omega
theorem ends_ok {p : Int → Bool} {xs : List (Int × Int)} (h : SpOk p xs 253402300800) {i : Nat} (hi : i < (endsL xs).length) : 0 ≤ (endsL xs)[i] ∧ (endsL xs)[i] ≤ 253402300800 ∧ (∀ h0 : 0 < i, (endsL xs)[i - 1]'(by omega) < (endsL xs)[i]) := by
  obtain ⟨x, hx, e⟩ := endsL_mem (List.getElem_mem hi)
  have h1 := h.low x hx
  have h2 := h.top x hx
  have h3 := h.sep.1 x hx
  refine ⟨by rcases e with e | e <;> omega, by rcases e with e | e <;> omega, fun h0 => List.pairwise_iff_getElem.1 (endsL_pw h.sep) (i - 1) i (by omega) hi (by omega)⟩
def fsAt (xs : List (Int × Int)) (at_ : Int) : Nat → Int
  | 0 => -1
  | k + 1 => if fsAt xs at_ k < 0 ∧ at_ < (xs.getD k (0, 0)).2 then max (xs.getD k (0, 0)).1 at_ else fsAt xs at_ k
theorem fsAt_spec (xs : List (Int × Int)) (at_ : Int) (h0 : 0 ≤ at_) : ∀ k, k ≤ xs.length → (fsAt xs at_ k = -1 ∧ ∀ j, (hj : j < xs.length) → j < k → xs[j].2 ≤ at_) ∨ ∃ j, ∃ hj : j < xs.length, j < k ∧ at_ < xs[j].2 ∧ (∀ i, (hi : i < xs.length) → i < j → xs[i].2 ≤ at_) ∧ fsAt xs at_ k = max xs[j].1 at_
  | 0, _ => .inl ⟨rfl, fun j _ h => by omega⟩
  | k + 1, hk => by
    have hg : xs.getD k (0, 0) = xs[k] := by rw [List.getD_eq_getElem?_getD, List.getElem?_eq_getElem (by omega)]; rfl
    rcases fsAt_spec xs at_ h0 k (by omega) with ⟨h1, h2⟩ | ⟨j, hj, h1, h2, h3, h4⟩
    · by_cases hq : at_ < xs[k].2
      · refine .inr ⟨k, by omega, by omega, hq, fun i hi hik => h2 i hi hik, ?_⟩
        rw [fsAt, hg, if_pos ⟨by omega, hq⟩]
      · refine .inl ⟨?_, fun j hj hjk => ?_⟩
        · rw [fsAt, hg, if_neg (fun e => hq e.2)]; exact h1
        · by_cases e : j = k
          · subst e; omega
          · exact h2 j hj (by omega)
    · refine .inr ⟨j, hj, by omega, h2, h3, ?_⟩
      rw [fsAt, if_neg (fun e => by have := e.1; omega)]; exact h4
theorem fs_open {p : Int → Bool} {xs : List (Int × Int)} {at_ : Int} (h : SpOk p xs 253402300800) (h0 : 0 ≤ at_ ∧ at_ ≤ 253402300799) : IsOpen p at_ 253402300799 (fsAt xs at_ xs.length) := by
  have hno : ∀ m, 0 ≤ m → m ≤ 253402300799 → ¬ InS xs m → p m = false := fun m h1 h2 h3 => by
    cases q : p m with
    | false => rfl
    | true => exact absurd ((h.mem m).2 ⟨h1, by omega, q⟩) h3
  rcases fsAt_spec xs at_ h0.1 xs.length (Nat.le_refl _) with ⟨h1, h2⟩ | ⟨j, hj, _, h2, h3, h4⟩
  · refine .inl ⟨h1, fun m hm hM => hno m (by omega) hM ?_⟩
    rintro ⟨x, hx, a, b⟩
    obtain ⟨j, hj, rfl⟩ := List.mem_iff_getElem.1 hx
    have := h2 j hj hj
    omega
  · have hx := List.getElem_mem hj
    have hlow := h.low _ hx
    have htop := h.top _ hx
    have hlt := h.sep.1 _ hx
    rw [h4]
    refine .inr ⟨by omega, by omega, ?_, fun m hm hl => hno m (by omega) (by omega) ?_⟩
    · exact ((h.mem _).1 ⟨_, hx, by omega, by omega⟩).2.2
    · rintro ⟨y, hy, a, b⟩
      obtain ⟨i, hi, rfl⟩ := List.mem_iff_getElem.1 hy
      rcases Nat.lt_trichotomy i j with e | e | e
      · have := h3 i hi e; omega
      · subst e; omega
      · have := List.pairwise_iff_getElem.1 h.sep.2 j i hj hi e
        omega
end Go.Proofs.YtfgglpjmkahphaaGreatDoor
