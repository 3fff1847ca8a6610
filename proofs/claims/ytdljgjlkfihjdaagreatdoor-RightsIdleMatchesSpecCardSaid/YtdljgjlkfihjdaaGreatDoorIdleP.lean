/-
  Rights that count for nothing: in plain words.
-/
import Derived.Test.YtdljgjlkfihjdaaGreatDoorRights
namespace Go.Proofs.YtdljgjlkfihjdaaGreatDoor
open Go.RowKit
set_option linter.unusedVariables false
set_option linter.unusedSimpArgs false

def actB (x : Rgt) : Bool := decide (fromI x < x.en)
/-- At a time and a moment one of these rights holds. -/
def Over (L : List Rgt) (tm at_ : Int) : Prop := ∃ x ∈ L, x.frm ≤ tm ∧ tm < x.to ∧ fromI x ≤ at_ ∧ at_ < x.en
/-- At all times and moments at which r holds one of these does. -/
def Cov (r : Rgt) (L : List Rgt) : Prop := ∀ tm at_, r.frm ≤ tm → tm < r.to → fromI r ≤ at_ → at_ < r.en → Over L tm at_
/-- The greatest of some numbers that is not behind t. -/
theorem last_le : ∀ (T : List Int) (t : Int), (∃ a ∈ T, a ≤ t) → ∃ m ∈ T, m ≤ t ∧ ∀ s ∈ T, s ≤ t → s ≤ m
  | [], t, h => by obtain ⟨a, ha, _⟩ := h; cases ha
  | x :: T, t, h => by
    by_cases hT : ∃ a ∈ T, a ≤ t
    · obtain ⟨m, hm, hmt, hall⟩ := last_le T t hT
      by_cases hx : x ≤ t ∧ m < x
      · refine ⟨x, by simp, hx.1, fun s hs hst => ?_⟩
        rcases List.mem_cons.1 hs with rfl | hs
        · omega
        · have := hall s hs hst; omega
      · refine ⟨m, by simp [hm], hmt, fun s hs hst => ?_⟩
        rcases List.mem_cons.1 hs with rfl | hs
        · omega
        · exact hall s hs hst
    · obtain ⟨a, ha, hat⟩ := h
      rcases List.mem_cons.1 ha with rfl | ha
      · refine ⟨a, by simp, hat, fun s hs hst => ?_⟩
        rcases List.mem_cons.1 hs with rfl | hs
        · omega
        · exact absurd ⟨s, hs, hst⟩ hT
      · exact absurd ⟨a, ha, hat⟩ hT
/-- How far some rights, in the order of their beginnings, hold without a gap. -/
def scan : List Rgt → Int → Int
  | [], a => a
  | x :: l, a => if fromI x > a then a else scan l (max a x.en)
theorem scan_is : ∀ (L : List Rgt) (a e : Int), L.Pairwise (fun x y => fromI x ≤ fromI y) → (e ≤ scan L a ↔ ∀ at_, a ≤ at_ → at_ < e → ∃ x ∈ L, fromI x ≤ at_ ∧ at_ < x.en)
  | [], a, e, _ => by
    rw [scan]
    refine ⟨fun h at_ h1 h2 => by omega, fun h => ?_⟩
    rcases Int.lt_or_le a e with h1 | h1
    · obtain ⟨x, hx, _⟩ := h a (by omega) h1; cases hx
    · exact h1
  | x :: l, a, e, hs => by
    rw [scan]
    rw [List.pairwise_cons] at hs
    split
    · rename_i hx
      refine ⟨fun h at_ h1 h2 => by omega, fun h => ?_⟩
      rcases Int.lt_or_le a e with h1 | h1
      · obtain ⟨y, hy, h2, _⟩ := h a (by omega) h1
        rcases List.mem_cons.1 hy with rfl | hy
        · omega
        · have := hs.1 y hy; omega
      · exact h1
    · rename_i hx
      rw [scan_is l (max a x.en) e hs.2]
      refine ⟨fun h at_ h1 h2 => ?_, fun h at_ h1 h2 => ?_⟩
      · by_cases hc : at_ < x.en
        · exact ⟨x, by simp, by omega, hc⟩
        · obtain ⟨y, hy, h3⟩ := h at_ (by omega) h2
          exact ⟨y, by simp [hy], h3⟩
      · obtain ⟨y, hy, h3, h4⟩ := h at_ (by omega) h2
        rcases List.mem_cons.1 hy with rfl | hy
        · omega
        · exact ⟨y, hy, h3, h4⟩
/-- The times at which it is looked: the beginning of r's, and where the times of others begin or end within them. -/
def InTimes (r : Rgt) (L : List Rgt) (tm : Int) : Prop := tm = r.frm ∨ ∃ x ∈ L, (tm = x.frm ∨ tm = x.to) ∧ r.frm < tm ∧ tm < r.to
theorem cov_times {r : Rgt} {L : List Rgt} {T : List Int} (hT : ∀ tm, tm ∈ T ↔ InTimes r L tm) (hr : r.frm < r.to) :
    Cov r L ↔ ∀ tm ∈ T, ∀ at_, fromI r ≤ at_ → at_ < r.en → Over L tm at_ := by
  constructor
  · intro h tm htm at_ h1 h2
    rcases (hT tm).1 htm with rfl | ⟨x, _, _, h3, h4⟩
    · exact h _ at_ (Int.le_refl _) hr h1 h2
    · exact h tm at_ (by omega) h4 h1 h2
  · intro h tm at_ h1 h2 h3 h4
    obtain ⟨m, hm, hmt, hall⟩ := last_le T tm ⟨r.frm, (hT _).2 (.inl rfl), h1⟩
    obtain ⟨x, hx, a1, a2, a3, a4⟩ := h m hm at_ h3 h4
    refine ⟨x, hx, by omega, ?_, a3, a4⟩
    rcases Int.lt_or_le tm x.to with h5 | h5
    · exact h5
    · have hmr : r.frm ≤ m := by
        rcases (hT m).1 hm with rfl | ⟨_, _, _, h6, _⟩
        · exact Int.le_refl _
        · omega
      have := hall x.to ((hT _).2 (.inr ⟨x, hx, .inr rfl, by omega, by omega⟩)) h5
      omega
/-- The right that counts: it holds, and none that holds is nearer. -/
theorem rOf_best (l : List Rgt) (c : Cap) (at_ : Int) : ∀ k, k ≤ l.length → (0 ≤ rOf l c at_ k → concB (l.getD (rOf l c at_ k).toNat default) c at_ = true) ∧
    ∀ j, j < k → concB (l.getD j default) c at_ = true → 0 ≤ rOf l c at_ k ∧ near (l.getD (rOf l c at_ k).toNat default) (l.getD j default) ≤ 0
  | 0, _ => ⟨fun h => by simp [rOf] at h, fun j hj => absurd hj (by omega)⟩
  | k + 1, hk => by
    obtain ⟨h1, h2⟩ := rOf_best l c at_ k (by omega)
    rw [rOf]
    split
    · rename_i hc
      refine ⟨fun _ => by rw [Int.toNat_natCast]; exact hc.1, fun j hj hjc => ⟨by omega, ?_⟩⟩
      rw [Int.toNat_natCast]
      rcases Nat.lt_or_ge j k with hjk | hjk
      · obtain ⟨h3, h4⟩ := h2 j hjk hjc
        rcases hc.2 with h5 | h5
        · omega
        · have := near_ord (l.getD k default) (l.getD (rOf l c at_ k).toNat default) (l.getD j default) (by omega) h4
          omega
      · obtain rfl : j = k := by omega
        have := near_neg (l.getD j default) (l.getD j default)
        omega
    · rename_i hc
      refine ⟨h1, fun j hj hjc => ?_⟩
      rcases Nat.lt_or_ge j k with hjk | hjk
      · exact h2 j hjk hjc
      · obtain rfl : j = k := by omega
        have h3 : ¬ (rOf l c at_ j < 0 ∨ near (l.getD j default) (l.getD (rOf l c at_ j).toNat default) < 0) := fun e => hc ⟨hjc, e⟩
        have h4 : ¬ rOf l c at_ j < 0 := fun e => h3 (.inl e)
        have h5 : ¬ near (l.getD j default) (l.getD (rOf l c at_ j).toNat default) < 0 := fun e => h3 (.inr e)
        have := near_neg (l.getD j default) (l.getD (rOf l c at_ j).toNat default)
        exact ⟨by omega, by omega⟩
theorem scmp_cas : ∀ a b : List UInt8, (scmp a b = -1 ∧ Op.bytesLess a b = true ∧ Op.bytesLess b a = false ∧ a ≠ b) ∨ (scmp a b = 0 ∧ Op.bytesLess a b = false ∧ Op.bytesLess b a = false ∧ a = b) ∨ (scmp a b = 1 ∧ Op.bytesLess a b = false ∧ Op.bytesLess b a = true ∧ a ≠ b)
  | [], [] => .inr (.inl ⟨rfl, rfl, rfl, rfl⟩)
  | [], _ :: _ => .inl ⟨rfl, rfl, rfl, by simp⟩
  | _ :: _, [] => .inr (.inr ⟨rfl, rfl, rfl, by simp⟩)
  | a :: x, b :: y => by
    have ih := scmp_cas x y
    unfold scmp at ih ⊢
    rw [Lib.compareBytes, Op.bytesLess, Op.bytesLess]
    by_cases h1 : a < b
    · have h2 : ¬ b < a := fun h => absurd (UInt8.lt_trans h1 h) (UInt8.lt_irrefl _)
      have h3 : a ≠ b := fun e => by subst e; exact UInt8.lt_irrefl _ h1
      left
      rw [if_pos h1]
      refine ⟨rfl, by simp [h1], ?_, by simp [h3]⟩
      simp [h2, Ne.symm h3]
    · by_cases h2 : b < a
      · have h3 : b ≠ a := fun e => by subst e; exact UInt8.lt_irrefl _ h2
        right; right
        rw [if_neg h1, if_pos h2]
        exact ⟨rfl, by simp [h1, Ne.symm h3], by simp [h2], by simp [Ne.symm h3]⟩
      · have h3 : a = b := UInt8.le_antisymm (UInt8.not_lt.1 h2) (UInt8.not_lt.1 h1)
        subst h3
        rw [if_neg h1, if_neg h1]
        simpa [h1] using ih
theorem near_id {a b : Rgt} (h : near a b = 0) : a.id = b.id := by
  have h2 : orL [icmp (b.pre.length : Int) (a.pre.length : Int), icmp b.made a.made, icmp (none1 b) (none1 a), scmp a.id b.id] = 0 := h
  have h3 : scmp a.id b.id = 0 := by
    simp only [orL] at h2
    repeat' split at h2
    all_goals first | exact h2 | omega
  rcases scmp_cas a.id b.id with ⟨g1, _⟩ | ⟨_, _, _, g4⟩ | ⟨g1, _⟩
  · rw [g1] at h3; cases h3
  · exact g4
  · rw [g1] at h3; cases h3
/-- The rights that a capture of this key can be about. -/
def nearK (l : List Rgt) (k : List UInt8) : List Rgt := l.filter fun x => preB k x.pre
/-- Those of them that count ahead of r. -/
def beforeK (l : List Rgt) (r : Rgt) (k : List UInt8) : List Rgt := l.filter fun x => preB k x.pre && (decide (near x r < 0) && actB x)
theorem before_mem {l : List Rgt} {r : Rgt} {k : List UInt8} {x : Rgt} : x ∈ beforeK l r k ↔ x ∈ nearK l k ∧ near x r < 0 ∧ fromI x < x.en := by
  unfold beforeK nearK actB
  rw [List.mem_filter, List.mem_filter]
  simp only [Bool.and_eq_true, decide_eq_true_eq, and_assoc]
theorem conc_iff {x : Rgt} {k : List UInt8} {tm at_ : Int} : concB x ⟨k, tm⟩ at_ = true ↔ preB k x.pre = true ∧ x.frm ≤ tm ∧ tm < x.to ∧ fromI x ≤ at_ ∧ at_ < x.en := by
  unfold concB aboutB
  simp only [Bool.and_eq_true, decide_eq_true_eq, and_assoc]
/-- The times and moments at which the reference looks. -/
structure Looks (L : List Rgt) (T A : List Int) : Prop where
  tm : ∀ n, n ∈ T ↔ n = 0 ∨ ∃ x ∈ L, n = x.frm ∨ n = x.to
  mo : ∀ n, n ∈ A ↔ n = 0 ∨ ∃ x ∈ L, n = x.st ∨ n = x.made ∨ n = x.en
/-- At one of the times and moments at which it is looked this right counts. -/
def Hits (L : List Rgt) (k : List UInt8) (r : Rgt) (T A : List Int) : Prop := ∃ tm ∈ T, tm ≤ 253402300799 ∧ ∃ at_ ∈ A, at_ ≤ 253402300799 ∧ 0 ≤ rightIx L ⟨k, tm⟩ at_ ∧ (L.getD (rightIx L ⟨k, tm⟩ at_).toNat default).id = r.id
theorem hits_is {l : List Rgt} {k : List UInt8} {r : Rgt} {T A : List Int} (hl : Looks (nearK l k) T A) (hr : r ∈ nearK l k) (hid : ∀ x ∈ l, x.id = r.id → x = r)
    (hb : 0 ≤ r.frm ∧ 0 ≤ fromI r ∧ r.to ≤ 253402300800 ∧ r.en ≤ 253402300800) : Hits (nearK l k) k r T A ↔ ¬ Cov r (beforeK l r k) := by
  have hsub : ∀ x ∈ nearK l k, x ∈ l ∧ preB k x.pre = true := fun x hx => by
    unfold nearK at hx
    rw [List.mem_filter] at hx
    exact hx
  obtain ⟨i, hi, hri⟩ := List.mem_iff_getElem.1 hr
  constructor
  · rintro ⟨tm, _, ht1, at_, _, ha1, h0, h1⟩ hcov
    obtain ⟨b1, b2⟩ := rOf_best (nearK l k) ⟨k, tm⟩ at_ (nearK l k).length (Nat.le_refl _)
    have hrg := rightIx_range (nearK l k) ⟨k, tm⟩ at_
    unfold rightIx at h0 h1 hrg
    have hc := b1 h0
    generalize rOf (nearK l k) ⟨k, tm⟩ at_ (nearK l k).length = j at *
    have hj : j.toNat < (nearK l k).length := by omega
    rw [getD_at _ _ hj] at h1 hc b2
    have hm := List.getElem_mem hj
    have e := hid _ (hsub _ hm).1 h1
    rw [e] at hc b2
    obtain ⟨_, c1, c2, c3, c4⟩ := conc_iff.1 hc
    obtain ⟨x, hx, d1, d2, d3, d4⟩ := hcov tm at_ c1 c2 c3 c4
    obtain ⟨hx1, hx2, _⟩ := before_mem.1 hx
    obtain ⟨q, hq, rfl⟩ := List.mem_iff_getElem.1 hx1
    have := (b2 q hq (by rw [getD_at _ _ hq]; exact conc_iff.2 ⟨(hsub _ hx1).2, d1, d2, d3, d4⟩)).2
    rw [getD_at _ _ hq] at this
    have := near_neg r (nearK l k)[q]
    omega
  · intro hn
    unfold Cov at hn
    simp only [Classical.not_forall] at hn
    obtain ⟨t, a, h1, h2, h3, h4, h5⟩ := hn
    obtain ⟨t', ht', htt, htl⟩ := last_le T t ⟨0, (hl.tm 0).2 (.inl rfl), by omega⟩
    obtain ⟨a', ha', haa, hal⟩ := last_le A a ⟨0, (hl.mo 0).2 (.inl rfl), by omega⟩
    have g1 : r.frm ≤ t' := htl _ ((hl.tm _).2 (.inr ⟨r, hr, .inl rfl⟩)) h1
    have g2 : fromI r ≤ a' := hal _ ((hl.mo _).2 (.inr ⟨r, hr, by unfold fromI; omega⟩)) h3
    have hover : ∀ x ∈ nearK l k, x.frm ≤ t' → t' < x.to → fromI x ≤ a' → a' < x.en → ¬ near x r < 0 := fun x hx e1 e2 e3 e4 e5 => by
      refine h5 ⟨x, before_mem.2 ⟨hx, e5, by omega⟩, by omega, ?_, by omega, ?_⟩
      · rcases Int.lt_or_le t x.to with h | h
        · exact h
        · have := htl x.to ((hl.tm _).2 (.inr ⟨x, hx, .inr rfl⟩)) h; omega
      · rcases Int.lt_or_le a x.en with h | h
        · exact h
        · have := hal x.en ((hl.mo _).2 (.inr ⟨x, hx, .inr (.inr rfl)⟩)) h; omega
    obtain ⟨b1, b2⟩ := rOf_best (nearK l k) ⟨k, t'⟩ a' (nearK l k).length (Nat.le_refl _)
    have hrg := rightIx_range (nearK l k) ⟨k, t'⟩ a'
    have hself := b2 i hi (by rw [getD_at _ _ hi, hri]; exact conc_iff.2 ⟨(hsub _ hr).2, g1, by omega, g2, by omega⟩)
    rw [getD_at _ _ hi, hri] at hself
    refine ⟨t', ht', by omega, a', ha', by omega, hself.1, ?_⟩
    unfold rightIx at hrg ⊢
    have hc := b1 hself.1
    generalize rOf (nearK l k) ⟨k, t'⟩ a' (nearK l k).length = j at *
    have hj : j.toNat < (nearK l k).length := by omega
    rw [getD_at _ _ hj] at hself hc ⊢
    obtain ⟨_, c1, c2, c3, c4⟩ := conc_iff.1 hc
    have hnn := hover _ (List.getElem_mem hj) c1 c2 c3 c4
    exact near_id (by omega)
/-- The keys at which it is looked. -/
def keysL (r : Rgt) : List (List UInt8) := if r.pre = [] then (List.range 94).map fun i => [UInt8.ofNat (33 + i)] else [r.pre]
def IdleR (l : List Rgt) (r : Rgt) : Prop := ∀ k ∈ keysL r, Cov r (beforeK l r k)
theorem pre_nil (k : List UInt8) : preB k [] = true := by
  unfold preB
  simp
theorem pre_take {k p : List UInt8} : preB k p = true ↔ p.length ≤ k.length ∧ k.take p.length = p := by
  unfold preB
  rw [Bool.and_eq_true, decide_eq_true_eq, decide_eq_true_eq]
theorem pre_trans {k p q : List UInt8} (h1 : preB k p = true) (h2 : preB p q = true) : preB k q = true := by
  rw [pre_take] at *
  refine ⟨by omega, ?_⟩
  have := h2.2
  rw [← h1.2, List.take_take, Nat.min_eq_left (by omega)] at this
  exact this
/-- What is idle counts for no capture. -/
theorem idle_never {l : List Rgt} {c : Cap} {at_ : Int} {i : Nat} (hi : i < l.length) (hc : rightIx l c at_ = (i : Int)) (hk : c.key ≠ [] ∧ isPre c.key = true) : ¬ IdleR l l[i] := by
  intro hid
  obtain ⟨b1, b2⟩ := rOf_best l c at_ l.length (Nat.le_refl _)
  unfold rightIx at hc
  rw [hc, Int.toNat_natCast, getD_at _ _ hi] at b1 b2
  have hcc := b1 (by omega)
  obtain ⟨ck, ct⟩ := c
  obtain ⟨c0, c1, c2, c3, c4⟩ := conc_iff.1 hcc
  have hkey : ∃ k ∈ keysL l[i], preB ck k = true ∧ preB k l[i].pre = true := by
    unfold keysL
    split
    · rename_i e
      dsimp only at hk
      obtain ⟨b, r, rfl⟩ : ∃ b r, ck = b :: r := by
        cases ck with
        | nil => exact absurd rfl hk.1
        | cons b r => exact ⟨b, r, rfl⟩
      have hb := hk.2
      unfold isPre at hb
      rw [Bool.and_eq_true, List.all_cons, Bool.and_eq_true] at hb
      have hb := hb.1.1
      unfold rowByte at hb
      simp only [Bool.and_eq_true, decide_eq_true_iff] at hb
      refine ⟨[b], List.mem_map.2 ⟨b.toNat - 33, List.mem_range.2 (by omega), ?_⟩, by rw [pre_take]; simp, by rw [e]; exact pre_nil _⟩
      rw [show 33 + (b.toNat - 33) = b.toNat by omega, UInt8.ofNat_toNat]
    · exact ⟨l[i].pre, by simp, c0, by rw [pre_take]; simp⟩
  obtain ⟨k, hkm, k1, k2⟩ := hkey
  obtain ⟨x, hx, d1, d2, d3, d4⟩ := hid k hkm ct at_ c1 c2 c3 c4
  obtain ⟨hx1, hx2, _⟩ := before_mem.1 hx
  unfold nearK at hx1
  rw [List.mem_filter] at hx1
  obtain ⟨q, hq, rfl⟩ := List.mem_iff_getElem.1 hx1.1
  have := (b2 q hq (by rw [getD_at _ _ hq]; exact conc_iff.2 ⟨pre_trans k1 hx1.2, d1, d2, d3, d4⟩)).2
  rw [getD_at _ _ hq] at this
  have := near_neg l[i] l[q]
  omega
/-- The rights that hold at a time. -/
def someK (L : List Rgt) (tm : Int) : List Rgt := L.filter fun x => decide (x.frm ≤ tm) && decide (tm < x.to)
theorem some_mem {L : List Rgt} {tm : Int} {x : Rgt} : x ∈ someK L tm ↔ x ∈ L ∧ x.frm ≤ tm ∧ tm < x.to := by
  unfold someK
  rw [List.mem_filter, Bool.and_eq_true, decide_eq_true_eq, decide_eq_true_eq]
theorem scan_over {r : Rgt} {L out : List Rgt} {tm : Int} (hp : out.Perm (someK L tm)) (hs : out.Pairwise (fun x y => fromI x ≤ fromI y)) :
    r.en ≤ scan out (fromI r) ↔ ∀ at_, fromI r ≤ at_ → at_ < r.en → Over L tm at_ := by
  rw [scan_is out _ _ hs]
  constructor
  · intro h at_ h1 h2
    obtain ⟨x, hx, h3, h4⟩ := h at_ h1 h2
    obtain ⟨a, b, c⟩ := some_mem.1 (hp.mem_iff.1 hx)
    exact ⟨x, a, b, c, h3, h4⟩
  · intro h at_ h1 h2
    obtain ⟨x, a, b, c, h3, h4⟩ := h at_ h1 h2
    exact ⟨x, hp.mem_iff.2 (some_mem.2 ⟨a, b, c⟩), h3, h4⟩
noncomputable def covB (r : Rgt) (L : List Rgt) : Bool := @decide (Cov r L) (Classical.propDecidable _)
theorem covB_yes {r : Rgt} {L : List Rgt} (h : Cov r L) : covB r L = true := by unfold covB; exact @decide_eq_true _ (Classical.propDecidable _) h
theorem covB_no {r : Rgt} {L : List Rgt} (h : ¬ Cov r L) : covB r L = false := by unfold covB; exact @decide_eq_false _ (Classical.propDecidable _) h
theorem covB_is {r : Rgt} {L : List Rgt} : covB r L = true ↔ Cov r L := by
  by_cases h : Cov r L
  · rw [covB_yes h]; exact ⟨fun _ => h, fun _ => rfl⟩
  · rw [covB_no h]; exact ⟨fun e => (by cases e), fun e => absurd e h⟩
noncomputable def idleB (l : List Rgt) (r : Rgt) : Bool := @decide (IdleR l r) (Classical.propDecidable _)
theorem idleB_yes {l : List Rgt} {r : Rgt} (h : IdleR l r) : idleB l r = true := by unfold idleB; exact @decide_eq_true _ (Classical.propDecidable _) h
theorem idleB_no {l : List Rgt} {r : Rgt} (h : ¬ IdleR l r) : idleB l r = false := by unfold idleB; exact @decide_eq_false _ (Classical.propDecidable _) h
theorem idleB_is {l : List Rgt} {r : Rgt} : idleB l r = true ↔ IdleR l r := by
  by_cases h : IdleR l r
  · rw [idleB_yes h]; exact ⟨fun _ => h, fun _ => rfl⟩
  · rw [idleB_no h]; exact ⟨fun e => (by cases e), fun e => absurd e h⟩
/-- A right that never holds is idle. -/
theorem idle_past {l : List Rgt} {r : Rgt} (h : r.en ≤ fromI r) : idleB l r = true :=
  idleB_yes fun k _ tm at_ _ _ h3 h4 => by omega
theorem idle_pre {l : List Rgt} {r : Rgt} (h : r.pre ≠ []) : idleB l r = covB r (beforeK l r r.pre) := by
  have hk : keysL r = [r.pre] := by unfold keysL; rw [if_neg h]
  by_cases hc : Cov r (beforeK l r r.pre)
  · rw [covB_yes hc]
    exact idleB_yes fun k hkm => by rw [hk, List.mem_singleton] at hkm; subst hkm; exact hc
  · rw [covB_no hc]
    exact idleB_no fun hi => hc (hi _ (by rw [hk]; simp))
/-- What is found at the first k bytes. -/
noncomputable def idleTo (l : List Rgt) (r : Rgt) : Nat → Bool
  | 0 => true
  | k + 1 => idleTo l r k && covB r (beforeK l r [UInt8.ofNat (33 + k)])
theorem idleTo_is (l : List Rgt) (r : Rgt) : ∀ k, idleTo l r k = true ↔ ∀ j, j < k → Cov r (beforeK l r [UInt8.ofNat (33 + j)])
  | 0 => ⟨fun _ j hj => absurd hj (by omega), fun _ => rfl⟩
  | k + 1 => by
    rw [idleTo, Bool.and_eq_true, idleTo_is l r k, covB_is]
    constructor
    · rintro ⟨h1, h2⟩ j hj
      rcases Nat.lt_or_ge j k with h | h
      · exact h1 j h
      · obtain rfl : j = k := by omega
        exact h2
    · intro h
      exact ⟨fun j hj => h j (by omega), h k (by omega)⟩
theorem idle_all {l : List Rgt} {r : Rgt} (h : r.pre = []) : idleB l r = idleTo l r 94 := by
  have key : idleTo l r 94 = true ↔ IdleR l r := by
    rw [idleTo_is]
    unfold IdleR keysL
    rw [if_pos h]
    constructor
    · intro h1 k hk
      obtain ⟨j, hj, rfl⟩ := List.mem_map.1 hk
      exact h1 j (List.mem_range.1 hj)
    · intro h1 j hj
      exact h1 _ (List.mem_map.2 ⟨j, List.mem_range.2 hj, rfl⟩)
  cases hq : idleTo l r 94 with
  | true => exact idleB_yes (key.1 hq)
  | false => exact idleB_no fun hi => by rw [key.2 hi] at hq; cases hq
/-- The numbers of the idle ones among the first k. -/
noncomputable def idleIx (l : List Rgt) : Nat → List Int
  | 0 => []
  | k + 1 => if idleB l (l.getD k default) = true then idleIx l k ++ [(k : Int)] else idleIx l k
theorem idleIx_len (l : List Rgt) : ∀ k, (idleIx l k).length ≤ k
  | 0 => Nat.le_refl _
  | k + 1 => by
    have := idleIx_len l k
    rw [idleIx]
    split
    · rw [List.length_append, List.length_singleton]; omega
    · omega
theorem idleIx_mem (l : List Rgt) (i : Nat) : ∀ k, (i : Int) ∈ idleIx l k ↔ i < k ∧ idleB l (l.getD i default) = true
  | 0 => by simp [idleIx]
  | k + 1 => by
    have ih := idleIx_mem l i k
    rw [idleIx]
    split
    · rename_i h
      rw [List.mem_append, ih, List.mem_singleton]
      constructor
      · rintro (⟨a, b⟩ | a)
        · exact ⟨by omega, b⟩
        · have : i = k := by omega
          subst this
          exact ⟨by omega, h⟩
      · rintro ⟨a, b⟩
        by_cases e : i = k
        · exact .inr (by omega)
        · exact .inl ⟨by omega, b⟩
    · rename_i h
      rw [ih]
      constructor
      · rintro ⟨a, b⟩; exact ⟨by omega, b⟩
      · rintro ⟨a, b⟩
        by_cases e : i = k
        · subst e; exact absurd b h
        · exact ⟨by omega, b⟩
theorem idleIx_wf (l : List Rgt) : ∀ k, k ≤ 1000000 → ∀ x ∈ idleIx l k, (Lit.int .i64 x).wf = true
  | 0, _ => fun x hx => by simp [idleIx] at hx
  | k + 1, hk => fun x hx => by
    rw [idleIx] at hx
    split at hx
    · rcases List.mem_append.1 hx with h | h
      · exact idleIx_wf l k (by omega) x h
      · rw [List.mem_singleton] at h
        subst h
        exact WalkArith.wf_i64 (by omega)
    · exact idleIx_wf l k (by omega) x hx
/-- The times at which 'covered' looks, of the first k. -/
def covT (r : Rgt) (L : List Rgt) : Nat → List Int
  | 0 => [r.frm]
  | k + 1 => covT r L k ++ ((if r.frm < (L.getD k default).frm ∧ (L.getD k default).frm < r.to then [(L.getD k default).frm] else []) ++ (if r.frm < (L.getD k default).to ∧ (L.getD k default).to < r.to then [(L.getD k default).to] else []))
theorem covT_len (r : Rgt) (L : List Rgt) : ∀ k, 1 ≤ (covT r L k).length ∧ (covT r L k).length ≤ 2 * k + 1
  | 0 => ⟨Nat.le_refl _, Nat.le_refl _⟩
  | k + 1 => by
    have := covT_len r L k
    rw [covT, List.length_append, List.length_append]
    constructor
    · omega
    · split <;> split <;> simp <;> omega
theorem ite_mem {p : Prop} [Decidable p] {a n : Int} : n ∈ (if p then [a] else []) ↔ p ∧ n = a := by
  by_cases h : p
  · rw [if_pos h, List.mem_singleton]; exact ⟨fun e => ⟨h, e⟩, fun e => e.2⟩
  · rw [if_neg h]; exact ⟨fun e => (by cases e), fun e => absurd e.1 h⟩
theorem covT_mem (r : Rgt) (L : List Rgt) (n : Int) : ∀ k, k ≤ L.length → (n ∈ covT r L k ↔ n = r.frm ∨ ∃ j, ∃ h : j < L.length, j < k ∧ (n = L[j].frm ∨ n = L[j].to) ∧ r.frm < n ∧ n < r.to)
  | 0, _ => by
    rw [covT, List.mem_singleton]
    exact ⟨.inl, fun h => h.elim id (fun ⟨j, _, hj, _⟩ => by omega)⟩
  | k + 1, hk => by
    have ih := covT_mem r L n k (by omega)
    rw [covT, getD_at L default (show k < L.length by omega), List.mem_append, List.mem_append, ih, ite_mem, ite_mem]
    constructor
    · rintro ((h | ⟨j, h1, h2, h3⟩) | (⟨⟨h1, h2⟩, h3⟩ | ⟨⟨h1, h2⟩, h3⟩))
      · exact .inl h
      · exact .inr ⟨j, h1, by omega, h3⟩
      · exact .inr ⟨k, by omega, by omega, .inl h3, by omega, by omega⟩
      · exact .inr ⟨k, by omega, by omega, .inr h3, by omega, by omega⟩
    · rintro (h | ⟨j, h1, h2, h3, h4, h5⟩)
      · exact .inl (.inl h)
      · by_cases e : j = k
        · subst e
          rcases h3 with h3 | h3
          · exact .inr (.inl ⟨by omega, h3⟩)
          · exact .inr (.inr ⟨by omega, h3⟩)
        · exact .inl (.inr ⟨j, h1, by omega, h3, h4, h5⟩)
theorem covT_all (r : Rgt) (L : List Rgt) (n : Int) : n ∈ covT r L L.length ↔ InTimes r L n := by
  rw [covT_mem r L n L.length (Nat.le_refl _)]
  unfold InTimes
  constructor
  · rintro (h | ⟨j, h1, _, h3⟩)
    · exact .inl h
    · exact .inr ⟨L[j], List.getElem_mem h1, h3⟩
  · rintro (h | ⟨x, hx, h3⟩)
    · exact .inl h
    · obtain ⟨j, hj, rfl⟩ := List.mem_iff_getElem.1 hx
      exact .inr ⟨j, hj, hj, h3⟩
/-- The times at which the reference looks, of the first k. -/
def timL (l : List Rgt) : Nat → List Int
  | 0 => [0]
  | k + 1 => timL l k ++ [(l.getD k default).frm, (l.getD k default).to]
theorem timL_len (l : List Rgt) : ∀ k, (timL l k).length = 2 * k + 1
  | 0 => rfl
  | k + 1 => by rw [timL, List.length_append, timL_len l k]; simp; omega
theorem timL_mem (l : List Rgt) (n : Int) : ∀ k, k ≤ l.length → (n ∈ timL l k ↔ n = 0 ∨ ∃ j, ∃ h : j < l.length, j < k ∧ (n = l[j].frm ∨ n = l[j].to))
  | 0, _ => by
    rw [timL, List.mem_singleton]
    exact ⟨.inl, fun h => h.elim id (fun ⟨j, _, hj, _⟩ => by omega)⟩
  | k + 1, hk => by
    have ih := timL_mem l n k (by omega)
    rw [timL, getD_at l default (show k < l.length by omega), List.mem_append, ih]
    constructor
    · rintro ((h | ⟨j, h1, h2, h3⟩) | h)
      · exact .inl h
      · exact .inr ⟨j, h1, by omega, h3⟩
      · exact .inr ⟨k, by omega, by omega, by simpa using h⟩
    · rintro (h | ⟨j, h1, h2, h3⟩)
      · exact .inl (.inl h)
      · by_cases e : j = k
        · subst e; exact .inr (by simpa using h3)
        · exact .inl (.inr ⟨j, h1, by omega, h3⟩)
theorem timL_all (l : List Rgt) (n : Int) : n ∈ timL l l.length ↔ n = 0 ∨ ∃ x ∈ l, n = x.frm ∨ n = x.to := by
  rw [timL_mem l n l.length (Nat.le_refl _)]
  constructor
  · rintro (h | ⟨j, h1, _, h3⟩)
    · exact .inl h
    · exact .inr ⟨l[j], List.getElem_mem h1, h3⟩
  · rintro (h | ⟨r, hr, h3⟩)
    · exact .inl h
    · obtain ⟨j, hj, rfl⟩ := List.mem_iff_getElem.1 hr
      exact .inr ⟨j, hj, hj, h3⟩
theorem nearK_take {l : List Rgt} {k : List UInt8} {j : Nat} (h : j < l.length) : nearK (l.take (j + 1)) k = nearK (l.take j) k ++ if preB k l[j].pre = true then [l[j]] else [] := by
  unfold nearK
  rw [List.take_succ_eq_append_getElem h, List.filter_append]
  by_cases e : preB k l[j].pre = true <;> simp [e]
theorem someK_take {l : List Rgt} {tm : Int} {j : Nat} (h : j < l.length) : someK (l.take (j + 1)) tm = someK (l.take j) tm ++ if l[j].frm ≤ tm ∧ tm < l[j].to then [l[j]] else [] := by
  unfold someK
  rw [List.take_succ_eq_append_getElem h, List.filter_append]
  by_cases e : l[j].frm ≤ tm ∧ tm < l[j].to
  · rw [if_pos e]; simp [e]
  · rw [if_neg e]
    have : (decide (l[j].frm ≤ tm) && decide (tm < l[j].to)) = false := by
      cases hq : (decide (l[j].frm ≤ tm) && decide (tm < l[j].to)) with
      | false => rfl
      | true => rw [Bool.and_eq_true, decide_eq_true_eq, decide_eq_true_eq] at hq; exact absurd hq e
    simp [List.filter_cons, this]
theorem beforeK_take {l : List Rgt} {r : Rgt} {k : List UInt8} {j : Nat} (h : j < l.length) : beforeK (l.take (j + 1)) r k = beforeK (l.take j) r k ++ if preB k l[j].pre = true ∧ near l[j] r < 0 ∧ fromI l[j] < l[j].en then [l[j]] else [] := by
  unfold beforeK actB
  rw [List.take_succ_eq_append_getElem h, List.filter_append]
  by_cases e : preB k l[j].pre = true ∧ near l[j] r < 0 ∧ fromI l[j] < l[j].en
  · rw [if_pos e]; simp [e]
  · rw [if_neg e]
    have : (preB k l[j].pre && (decide (near l[j] r < 0) && decide (fromI l[j] < l[j].en))) = false := by
      cases hq : (preB k l[j].pre && (decide (near l[j] r < 0) && decide (fromI l[j] < l[j].en))) with
      | false => rfl
      | true => rw [Bool.and_eq_true, Bool.and_eq_true, decide_eq_true_eq, decide_eq_true_eq] at hq; exact absurd hq e
    simp [List.filter_cons, this]
/-- The numbers of a right that is right. -/
structure RBd (r : Rgt) : Prop where
  frm : 0 ≤ r.frm ∧ r.frm ≤ 253402300800
  to : 0 ≤ r.to ∧ r.to ≤ 253402300800
  st : 0 ≤ r.st ∧ r.st ≤ 253402300800
  en : 0 ≤ r.en ∧ r.en ≤ 253402300800
  made : 0 ≤ r.made ∧ r.made ≤ 253402300800
  lt : r.frm < r.to
theorem rg_bd {r : Rgt} (h : rgF r = 0) : RBd r := by
  unfold rgF at h
  split at h
  · cases h
  split at h
  · cases h
  unfold rgRest at h
  split at h
  · cases h
  rename_i h3
  split at h
  · cases h
  rename_i h4
  have h3 : rgRange r = true := by simpa using h3
  unfold rgRange withinB at h3
  simp only [Bool.and_eq_true, decide_eq_true_iff] at h3
  obtain ⟨a1, a2, a3, a4, a5⟩ := h3
  exact ⟨by omega, by omega, by omega, by omega, by omega, by
    rcases Int.lt_or_le r.frm r.to with h | h
    · exact h
    · exact absurd (.inl h) h4⟩
end Go.Proofs.YtdljgjlkfihjdaaGreatDoor
