/-
  Lists of rights: how they read; what is right of them; which one counts; who may see: plain facts.
-/
import Derived.Test.YtdljgjlkfihjdaaGreatDoorIsIn
namespace Go.Proofs.YtdljgjlkfihjdaaGreatDoor
open Go.RowKit
set_option linter.unusedVariables false
set_option linter.unusedSimpArgs false

def RgtOk (c : Rgt) : Prop := c.id.length ≤ maxLen ∧ c.pre.length ≤ maxLen ∧ (Lit.int .i64 c.frm).wf = true ∧ (Lit.int .i64 c.to).wf = true ∧ (Lit.int .i64 c.st).wf = true ∧ (Lit.int .i64 c.en).wf = true ∧ (Lit.int .i64 c.made).wf = true ∧ (Lit.int .i64 c.kind).wf = true ∧ c.team.length ≤ maxLen
theorem rgt_opens {w : World} {S : Nat → Prop} {us : List Value} {c : Rgt} (h : rgtRp.ok w S us c) : us = rgtCells c ∧ RgtOk c := rgt_open h
theorem rgt_mk {w : World} {S : Nat → Prop} {c : Rgt} (h : RgtOk c) : rgtRp.ok w S (rgtCells c) c := by
  obtain ⟨h0, h1, h2, h3, h4, h5, h6, h7, h8⟩ := h
  exact ⟨[_], [_, _, _, _, _, _, _, _], rfl, ⟨rfl, h0⟩, ⟨[_], [_, _, _, _, _, _, _], rfl, ⟨rfl, h1⟩, ⟨[_], [_, _, _, _, _, _], rfl, ⟨rfl, h2⟩, ⟨[_], [_, _, _, _, _], rfl, ⟨rfl, h3⟩, ⟨[_], [_, _, _, _], rfl, ⟨rfl, h4⟩, ⟨[_], [_, _, _], rfl, ⟨rfl, h5⟩, ⟨[_], [_, _], rfl, ⟨rfl, h6⟩, ⟨[_], [_], rfl, ⟨rfl, h7⟩, ⟨rfl, h8⟩⟩⟩⟩⟩⟩⟩⟩⟩
theorem opens_rgts : Opens Tryz.prog 23 (Rp.sl rgtRp) := opens_sl Tryz.underlying23 (by kernel_rfl) (by decide) (of_decide_eq_true (by kernel_rfl)) opens_rgt
theorem rgt_at {w : World} {S : Nat → Prop} {v : Value} {l : List Rgt} (h : (Rp.sl rgtRp).ok w S [v] l) {k : Nat} (hk : k < l.length) :
    ∃ ad c, v = .slice (some ad) l.length c ∧ S ad.block ∧ w.cell? (ad.add (k * 9)) = some (.string (bstr l[k].id)) ∧ w.cell? ⟨(ad.add (k * 9)).block, (ad.add (k * 9)).off + 1, none⟩ = some (.string (bstr l[k].pre)) ∧ w.cell? ⟨(ad.add (k * 9)).block, (ad.add (k * 9)).off + 2, none⟩ = some (.int .i64 l[k].frm) ∧ w.cell? ⟨(ad.add (k * 9)).block, (ad.add (k * 9)).off + 3, none⟩ = some (.int .i64 l[k].to) ∧ w.cell? ⟨(ad.add (k * 9)).block, (ad.add (k * 9)).off + 4, none⟩ = some (.int .i64 l[k].st) ∧ w.cell? ⟨(ad.add (k * 9)).block, (ad.add (k * 9)).off + 5, none⟩ = some (.int .i64 l[k].en) ∧ w.cell? ⟨(ad.add (k * 9)).block, (ad.add (k * 9)).off + 6, none⟩ = some (.int .i64 l[k].made) ∧ w.cell? ⟨(ad.add (k * 9)).block, (ad.add (k * 9)).off + 7, none⟩ = some (.int .i64 l[k].kind) ∧ w.cell? ⟨(ad.add (k * 9)).block, (ad.add (k * 9)).off + 8, none⟩ = some (.string (bstr l[k].team)) ∧ RgtOk l[k] := by
  obtain ⟨A, c, rfl, _⟩ := Rp.sl_open h
  obtain ⟨ad, us, rfl, _, hb, hu, hcell⟩ := Rp.sl_at h hk
  obtain ⟨rfl, hz⟩ := rgt_opens hu
  have c0 := hcell 0 _ rfl
  have c1 := hcell 1 _ rfl
  have c2 := hcell 2 _ rfl
  have c3 := hcell 3 _ rfl
  have c4 := hcell 4 _ rfl
  have c5 := hcell 5 _ rfl
  have c6 := hcell 6 _ rfl
  have c7 := hcell 7 _ rfl
  have c8 := hcell 8 _ rfl
  rw [add_fld _ _ _ (by omega)] at c1 c2 c3 c4 c5 c6 c7 c8
  exact ⟨ad, c, rfl, hb, c0, c1, c2, c3, c4, c5, c6, c7, c8, hz⟩
theorem rgts_read {w : World} {B : Nat} {v : Value} {l : List Rgt} {n : Nat} (h : w.ownsRow B 38 9 v n (l.flatMap rgtCells)) (hl : ∀ s ∈ l, RgtOk s) : (Rp.sl rgtRp).ok w (· < w.heap.size) [v] l :=
  Rp.of_ownN (R := rgtRp) (by decide) (fun _ => rfl) h (fun g hg => (h.lt g hg).2) (fun s hs => rgt_mk (hl s hs))
/-- The fault of right i, of the teams t. -/
def rgsF (t : List Team) (l : List Rgt) (i : Nat) : Int :=
  if isNm (l.getD i default).id = false then 5 else if (l.getD i default).id ∈ (l.take i).map (·.id) then 7 else if rgF (l.getD i default) ≠ 0 then rgF (l.getD i default)
  else if (l.getD i default).team ≠ [] ∧ teamIdx t (l.getD i default).team < 0 then 9 else 0
def rgsFault (t : List Team) (l : List Rgt) : Int := if 300 < l.length then 2 else firstF (rgsF t l) l.length
noncomputable def rightsFault (t : List Team) (l : List Rgt) : Int := if teamsFault t ≠ 0 then teamsFault t else rgsFault t l
theorem rgs_1 {t : List Team} {l : List Rgt} (h : 300 < l.length) : rgsFault t l = 2 := if_pos h
theorem rgs_2 {t : List Team} {l : List Rgt} (h : ¬ 300 < l.length) {i : Nat} (hi : i < l.length) (hS : ∀ j, j < i → rgsF t l j = 0) {f : Int} (hf : rgsF t l i = f) (hn : f ≠ 0) : rgsFault t l = f := by
  rw [rgsFault, if_neg h, firstF_at hi hS (by rw [hf]; exact hn), hf]
theorem rgs_3 {t : List Team} {l : List Rgt} (h : ¬ 300 < l.length) (hS : ∀ j, j < l.length → rgsF t l j = 0) : rgsFault t l = 0 := by
  rw [rgsFault, if_neg h, firstF_ok hS]
/-- What the other functions need of rights. -/
structure RGood (t : List Team) (l : List Rgt) : Prop where
  len : l.length ≤ 300
  each : ∀ k, (h : k < l.length) → rgF l[k] = 0
  known : ∀ k, (h : k < l.length) → l[k].team ≠ [] → 0 ≤ teamIdx t l[k].team
theorem rgs_good {t : List Team} {l : List Rgt} (h : rgsFault t l = 0) : RGood t l := by
  unfold rgsFault at h
  split at h
  · cases h
  · rename_i h1
    have hS := firstF_all h
    have key : ∀ k, (hk : k < l.length) → rgF l[k] = 0 ∧ (l[k].team ≠ [] → 0 ≤ teamIdx t l[k].team) := fun k hk => by
      have := hS k hk
      unfold rgsF at this
      rw [getD_at _ _ hk] at this
      split at this
      · cases this
      · split at this
        · cases this
        · split at this
          · rename_i h2; exact absurd this h2
          · rename_i h2
            refine ⟨Decidable.not_not.1 h2, fun h3 => ?_⟩
            split at this
            · cases this
            · rename_i h4
              exact Int.not_lt.1 (fun e => h4 ⟨h3, e⟩)
    exact ⟨by omega, fun k hk => (key k hk).1, fun k hk => (key k hk).2⟩
theorem rights_good {t : List Team} {l : List Rgt} (h : rightsFault t l = 0) : teamsFault t = 0 ∧ TGood t ∧ RGood t l := by
  unfold rightsFault at h
  split at h
  · rename_i h1; exact absurd h h1
  · rename_i h1
    have h1 := Decidable.not_not.1 h1
    exact ⟨h1, (teams_good h1).1, rgs_good h⟩
/-- The number of the right that counts, of the first ones; -1: none does. -/
def rOf (l : List Rgt) (c : Cap) (at_ : Int) : Nat → Int
  | 0 => -1
  | k + 1 => if concB (l.getD k default) c at_ = true ∧ (rOf l c at_ k < 0 ∨ near (l.getD k default) (l.getD (rOf l c at_ k).toNat default) < 0) then (k : Int) else rOf l c at_ k
theorem rOf_range (l : List Rgt) (c : Cap) (at_ : Int) : ∀ k, -1 ≤ rOf l c at_ k ∧ rOf l c at_ k < k
  | 0 => by simp [rOf]
  | k + 1 => by
    have := rOf_range l c at_ k
    rw [rOf]; split
    · omega
    · omega
def rightIx (l : List Rgt) (c : Cap) (at_ : Int) : Int := rOf l c at_ l.length
theorem rightIx_range (l : List Rgt) (c : Cap) (at_ : Int) : -1 ≤ rightIx l c at_ ∧ rightIx l c at_ < l.length := rOf_range l c at_ l.length
/-- Somebody is in the team of a right. -/
noncomputable def inTeam (t : List Team) (who tm : List UInt8) : Bool := decide (tm ≠ []) && (decide (who ≠ []) && inB t (teamIdx t tm).toNat who)
noncomputable def mayB (t : List Team) (l : List Rgt) (who : List UInt8) (house : Bool) (c : Cap) (at_ : Int) : Bool :=
  if rightIx l c at_ < 0 then true else if (l.getD (rightIx l c at_).toNat default).kind = 1 then true
  else if (l.getD (rightIx l c at_).toNat default).kind = 2 then inTeam t who (l.getD (rightIx l c at_).toNat default).team
  else if (l.getD (rightIx l c at_).toNat default).kind = 3 then house || inTeam t who (l.getD (rightIx l c at_).toNat default).team else false
noncomputable def askF (t : List Team) (l : List Rgt) (who : List UInt8) (c : Cap) : Int :=
  if rightsFault t l ≠ 0 then rightsFault t l else if who ≠ [] ∧ isNm who = false then 5 else capF c
theorem ask_good {t : List Team} {l : List Rgt} {who : List UInt8} {c : Cap} (h : askF t l who c = 0) : teamsFault t = 0 ∧ TGood t ∧ RGood t l := by
  unfold askF at h
  split at h
  · rename_i h1; exact absurd h h1
  · rename_i h1
    exact rights_good (Decidable.not_not.1 h1)
noncomputable def rightTop (t : List Team) (l : List Rgt) (c : Cap) (at_ : Int) : Int × Bool × Int :=
  if askF t l [] c ≠ 0 then (0, false, askF t l [] c) else if withinB at_ 0 253402300799 = false then (0, false, 1) else (max (rightIx l c at_) 0, decide (0 ≤ rightIx l c at_), 0)
noncomputable def mayTop (t : List Team) (l : List Rgt) (who : List UInt8) (house : Bool) (c : Cap) (at_ : Int) : Bool × Int :=
  if askF t l who c ≠ 0 then (false, askF t l who c) else if withinB at_ 0 253402300799 = false then (false, 1) else (mayB t l who house c at_, 0)
/-- The teams of a viewer. -/
noncomputable def eyeT (t : List Team) (who : List UInt8) (n : Nat) : List (List UInt8) := if who = [] then [] else teamsOf t who n
theorem teamsOf_mem {t : List Team} {who tm : List UInt8} : ∀ n, n ≤ t.length → (tm ∈ teamsOf t who n ↔ ∃ i, i < n ∧ inB t i who = true ∧ (t.getD i default).name = tm)
  | 0, _ => by simp [teamsOf]
  | n + 1, hn => by
    have ih := teamsOf_mem (t := t) (who := who) (tm := tm) n (by omega)
    rw [teamsOf]
    constructor
    · intro h
      split at h
      · rename_i hb
        rcases List.mem_append.1 h with h | h
        · obtain ⟨i, h1, h2, h3⟩ := ih.1 h
          exact ⟨i, by omega, h2, h3⟩
        · exact ⟨n, by omega, hb, (List.mem_singleton.1 h).symm⟩
      · obtain ⟨i, h1, h2, h3⟩ := ih.1 h
        exact ⟨i, by omega, h2, h3⟩
    · rintro ⟨i, h1, h2, h3⟩
      by_cases e : i = n
      · subst e
        rw [if_pos h2, List.mem_append]
        exact .inr (List.mem_singleton.2 h3.symm)
      · have := ih.2 ⟨i, by omega, h2, h3⟩
        split
        · exact List.mem_append.2 (.inl this)
        · exact this
theorem team_name {t : List Team} (h : teamsFault t = 0) {i : Nat} (hi : i < t.length) : t[i].name ≠ [] := by
  unfold teamsFault at h
  split at h
  · cases h
  · split at h
    · rename_i h2; exact absurd h h2
    · rename_i h2
      have := (teamF_parts hi (firstF_all (Decidable.not_not.1 h2) i hi)).1
      have := (nm_len this).1
      intro e
      rw [e] at this
      simp at this
theorem sorted_ne {t : List Team} (h : TSorted t) {i j : Nat} (hi : i < t.length) (hj : j < t.length) (he : t[i].name = t[j].name) : i = j := by
  rcases Nat.lt_trichotomy i j with e | e | e
  · have := h i j e hj
    rw [he] at this
    have := slt_scmp.1 this
    rcases scmp_tri t[j].name t[j].name with ⟨_, _, _, h4⟩ | ⟨h1, _⟩ | ⟨_, _, _, h4⟩
    · exact absurd rfl h4
    · omega
    · exact absurd rfl h4
  · exact e
  · have := h j i e hi
    rw [he] at this
    have := slt_scmp.1 this
    rcases scmp_tri t[j].name t[j].name with ⟨_, _, _, h4⟩ | ⟨h1, _⟩ | ⟨_, _, _, h4⟩
    · exact absurd rfl h4
    · omega
    · exact absurd rfl h4
/-- To be among the teams of a viewer is to be in the team. -/
theorem eye_in {t : List Team} (h : teamsFault t = 0) {who tm : List UInt8} (hk : tm ≠ [] → 0 ≤ teamIdx t tm) : decide (tm ∈ eyeT t who t.length) = inTeam t who tm := by
  have hg := (teams_good h).1
  unfold eyeT inTeam
  by_cases hw : who = []
  · rw [if_pos hw]
    simp [hw]
  rw [if_neg hw]
  by_cases ht : tm = []
  · have : tm ∉ teamsOf t who t.length := fun e => by
      obtain ⟨i, h1, h2, h3⟩ := (teamsOf_mem t.length (Nat.le_refl _)).1 e
      rw [getD_at _ _ h1] at h3
      exact team_name h h1 (h3.trans ht)
    rw [decide_eq_false this]
    simp [ht]
  have hix := hk ht
  rcases teamIdx_spec t tm with ⟨i, hi, h1, h2, h3⟩ | ⟨h1, h2⟩
  · rw [h1, Int.toNat_natCast]
    have key : tm ∈ teamsOf t who t.length ↔ inB t i who = true := by
      rw [teamsOf_mem t.length (Nat.le_refl _)]
      constructor
      · rintro ⟨j, hj, hb, hn⟩
        rw [getD_at _ _ hj] at hn
        have := sorted_ne hg.sort hj hi (hn.trans h2.symm)
        subst this; exact hb
      · exact fun hb => ⟨i, hi, hb, by rw [getD_at _ _ hi]; exact h2⟩
    rw [decide_eq_true ht, decide_eq_true hw, Bool.true_and, Bool.true_and]
    cases hb : inB t i who with
    | true => exact decide_eq_true (key.2 hb)
    | false => exact decide_eq_false (fun e => by have := key.1 e; rw [hb] at this; cases this)
  · rw [h1] at hix
    exact absurd hix (by decide)
end Go.Proofs.YtdljgjlkfihjdaaGreatDoor
