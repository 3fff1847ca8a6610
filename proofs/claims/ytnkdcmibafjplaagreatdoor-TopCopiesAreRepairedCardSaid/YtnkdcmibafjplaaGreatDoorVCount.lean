/-
  Votes count all: plain facts.
-/
import Derived.Test.YtnkdcmibafjplaaGreatDoorVotePlain
namespace Go.Proofs.YtnkdcmibafjplaaGreatDoor
open Go.RowKit
set_option linter.unusedVariables false
set_option linter.unusedSimpArgs false

theorem bl_trans : ∀ {a b c : List UInt8}, Op.bytesLess a b = true → Op.bytesLess b c = true → Op.bytesLess a c = true
  | _, [], _, h, _ => by simp [Op.bytesLess] at h
  | _, _ :: _, [], _, k => by simp [Op.bytesLess] at k
  | [], _ :: _, _ :: _, _, _ => rfl
  | a :: x, b :: y, c :: z, h, k => by
    simp only [Op.bytesLess, Bool.or_eq_true, decide_eq_true_eq, Bool.and_eq_true, beq_iff_eq] at h k ⊢
    rcases h with h | ⟨rfl, h⟩ <;> rcases k with k | ⟨rfl, k⟩
    · exact .inl (UInt8.lt_trans h k)
    · exact .inl h
    · exact .inl k
    · exact .inr ⟨rfl, bl_trans h k⟩
theorem bl_irr (a : List UInt8) : Op.bytesLess a a = false := by
  rcases scmp_cases a a with ⟨_, _, _, h⟩ | ⟨_, h, _, _⟩ | ⟨_, _, _, h⟩
  · exact absurd rfl h
  · exact h
  · exact absurd rfl h
theorem bl_ne {a b : List UInt8} (h : Op.bytesLess a b = true) : a ≠ b := fun e => by rw [e, bl_irr] at h; exact absurd h (by decide)
/-- Copies in order. -/
def HLt (y x : Held) : Prop := Op.bytesLess y.item x.item = true ∨ (y.item = x.item ∧ Op.bytesLess y.site x.site = true)
theorem HLt.trans {a b c : Held} (h : HLt a b) (k : HLt b c) : HLt a c := by
  rcases h with h | ⟨e, h⟩ <;> rcases k with k | ⟨f, k⟩
  · exact .inl (bl_trans h k)
  · exact .inl (f ▸ h)
  · exact .inl (e ▸ k)
  · exact .inr ⟨e.trans f, bl_trans h k⟩
theorem heldBad_lt {y x : Held} (h : heldBad y x = false) : HLt y x := by
  unfold heldBad slt sle at h
  rw [Bool.or_eq_false_iff] at h
  rcases scmp_cases y.item x.item with ⟨_, h2, _, _⟩ | ⟨_, _, _, h4⟩ | ⟨_, _, h3, _⟩
  · exact .inl h2
  · rw [h4, beq_self_eq_true, Bool.true_and, Bool.or_eq_false_iff] at h
    rcases scmp_cases y.site x.site with ⟨_, g2, _, _⟩ | ⟨_, _, _, g4⟩ | ⟨_, _, g3, _⟩
    · exact .inr ⟨h4, g2⟩
    · rw [g4, beq_self_eq_true] at h; exact absurd h.2.2 (by decide)
    · rw [g3] at h; exact absurd h.2.1 (by decide)
  · rw [h3] at h; exact absurd h.1 (by decide)
theorem pairwise_of_next {α : Type} (R : α → α → Prop) (ht : ∀ a b c, R a b → R b c → R a c) : ∀ {l : List α}, (∀ i, (h : i + 1 < l.length) → R (l[i]'(by omega)) l[i + 1]) → l.Pairwise R
  | [], _ => .nil
  | [a], _ => by simp
  | a :: b :: l, h => by
    have ih := pairwise_of_next R ht (l := b :: l) (fun i hi => by have := h (i + 1) (by simpa using hi); simpa using this)
    have hab : R a b := by simpa using h 0 (by simp)
    refine List.Pairwise.cons (fun x hx => ?_) ih
    rcases List.mem_cons.1 hx with rfl | hx
    · exact hab
    · exact ht _ _ _ hab (List.rel_of_pairwise_cons ih hx)
theorem copies_sorted {s : List Site} {l : List Held} (h : copiesFault s l = 0) : l.Pairwise HLt := by
  obtain ⟨_, _, h3⟩ := copies_ok h
  refine pairwise_of_next HLt (fun _ _ _ => HLt.trans) fun i hi => ?_
  have hf := h3 (i + 1) hi
  unfold heldF at hf
  rw [getD_at _ _ hi, Nat.add_sub_cancel, getD_at _ _ (show i < l.length by omega)] at hf
  split at hf
  · omega
  · split at hf
    · omega
    · split at hf
      · omega
      · split at hf
        · omega
        · rename_i hn
          refine heldBad_lt ?_
          cases hb : heldBad l[i] l[i + 1] with
          | false => rfl
          | true => exact absurd ⟨by omega, hb⟩ hn
theorem copies_dig {s : List Site} {l : List Held} (h : copiesFault s l = 0) {x : Held} (hx : x ∈ l) : x.digest ≠ [] := by
  obtain ⟨_, _, h3⟩ := copies_ok h
  obtain ⟨j, hj, rfl⟩ := List.getElem_of_mem hx
  have hf := h3 j hj
  unfold heldF at hf
  rw [getD_at _ _ hj] at hf
  split at hf
  · omega
  · split at hf
    · omega
    · split at hf
      · omega
      · rename_i hd
        intro e
        rw [e] at hd
        exact hd (by decide)
theorem sites_sorted {s : List Site} (h : sitesFault s = 0) : s.Pairwise (fun a b => Op.bytesLess a.name b.name = true) := by
  unfold sitesFault at h
  split at h
  · omega
  · split at h
    · omega
    · refine pairwise_of_next (fun a b : Site => Op.bytesLess a.name b.name = true) (fun _ _ _ h k => bl_trans h k) fun i hi => ?_
      have hf := firstF_all h (i + 1) hi
      unfold siteF at hf
      rw [getD_at _ _ hi, Nat.add_sub_cancel, getD_at _ _ (show i < s.length by omega)] at hf
      split at hf
      · omega
      · split at hf
        · omega
        · rename_i hn
          unfold sle at hn
          rcases scmp_cases s[i].name s[i + 1].name with ⟨_, g2, _, _⟩ | ⟨_, _, _, g4⟩ | ⟨_, _, g3, _⟩
          · exact g2
          · exact absurd ⟨by omega, by rw [g4]; simp⟩ hn
          · exact absurd ⟨by omega, by rw [g3]; rfl⟩ hn
/-- How many copies are of an item. -/
def many (l : List Held) (it : List UInt8) : Nat := (l.filter fun h => decide (h.item = it)).length
def ofIt (it : List UInt8) (h : Held) : Bool := decide (h.item = it)
theorem take_run (it : List UInt8) : ∀ (r : List Held), (∀ x ∈ r.take (runLen it r), x.item = it) ∧ (∀ h : runLen it r < r.length, r[runLen it r].item ≠ it)
  | [] => ⟨fun x hx => by simp [runLen] at hx, fun h => by simp [runLen] at h⟩
  | h :: r => by
    have ih := take_run it r
    rw [runLen]
    split
    · rename_i e
      refine ⟨fun x hx => ?_, fun hk => ?_⟩
      · rw [List.take_succ_cons] at hx
        rcases List.mem_cons.1 hx with rfl | hx
        · exact e
        · exact ih.1 x hx
      · simpa using ih.2 (by simpa using hk)
    · rename_i e
      exact ⟨fun x hx => by simp at hx, fun _ => e⟩
theorem votesOf_part {s : List Site} {l : List Held} (hs : l.Pairwise HLt) {V : Vote} (hV : V ∈ votesOf s l) : ∃ p, p ≠ [] ∧ V = voteOf s p ∧ p = l.filter (ofIt V.item) := by
  match l with
  | [] => rw [votesOf] at hV; simp at hV
  | h :: r =>
    rw [votesOf] at hV
    obtain ⟨ha, hb⟩ := take_run h.item r
    obtain ⟨n, hn⟩ : ∃ n, runLen h.item r = n := ⟨_, rfl⟩
    have hnl := runLen_le h.item r
    rw [hn] at hV ha hb hnl
    have hsr : r.Pairwise HLt := hs.of_cons
    have hle : ∀ x ∈ r.drop n, Op.bytesLess h.item x.item = true := by
      intro x hx
      obtain ⟨j, hj, rfl⟩ := List.getElem_of_mem hx
      rw [List.length_drop] at hj
      rw [List.getElem_drop]
      have h0 : Op.bytesLess h.item r[n].item = true := by
        rcases List.rel_of_pairwise_cons hs (List.getElem_mem (show n < r.length by omega)) with q | ⟨q, _⟩
        · exact q
        · exact absurd q.symm (hb (by omega))
      cases j with
      | zero => exact h0
      | succ j =>
        rcases List.pairwise_iff_getElem.1 hsr n (n + (j + 1)) (by omega) (by omega) (by omega) with q | ⟨q, _⟩
        · exact bl_trans h0 q
        · exact q ▸ h0
    have h1 : (h :: r).take (n + 1) = h :: r.take n := rfl
    have h2 : (h :: r).drop (n + 1) = r.drop n := rfl
    have hsplit : h :: r = (h :: r.take n) ++ r.drop n := by simp
    have hitem : ∀ x ∈ h :: r.take n, x.item = h.item := by
      intro x hx
      rcases List.mem_cons.1 hx with rfl | hx
      · rfl
      · exact ha x hx
    rcases List.mem_cons.1 hV with rfl | hV
    · refine ⟨(h :: r).take (n + 1), by simp, rfl, ?_⟩
      have hi : (voteOf s ((h :: r).take (n + 1))).item = h.item := by rw [h1, voteOf]; rfl
      rw [hi, h1]
      conv => rhs; rw [hsplit]
      rw [List.filter_append, List.filter_eq_self.2 (fun x hx => show ofIt h.item x = true from decide_eq_true (hitem x hx)), List.filter_eq_nil_iff.2 (fun x hx => by have := bl_ne (hle x hx); simpa [ofIt] using Ne.symm this), List.append_nil]
    · have hterm : (r.drop n).length < (h :: r).length := by simp only [List.length_drop, List.length_cons]; omega
      obtain ⟨p, hp0, hp1, hp2⟩ := votesOf_part (s := s) (l := r.drop n) (hsr.sublist (List.drop_sublist _ _)) hV
      refine ⟨p, hp0, hp1, ?_⟩
      conv => rhs; rw [hsplit]
      rw [List.filter_append, ← hp2]
      have hvi : h.item ≠ V.item := by
        rw [hp2] at hp0
        obtain ⟨x, hx⟩ := List.exists_mem_of_ne_nil _ hp0
        rw [List.mem_filter] at hx
        rw [← of_decide_eq_true hx.2]
        exact bl_ne (hle x hx.1)
      rw [List.filter_eq_nil_iff.2 (fun x hx => by rw [ofIt, hitem x hx]; simpa using hvi), List.nil_append]
termination_by l.length
theorem voteDig_cases (s : List Site) (all : List Held) : ∀ (l : List Held) (d : List UInt8), voteDigGo s all l d = d ∨ 2 * ofW s (voteDigGo s all l d) all > sumW s all
  | [], d => .inl rfl
  | h :: l, d => by
    rw [voteDigGo]
    rcases voteDig_cases s all l (if 2 * ofW s h.digest all > sumW s all then h.digest else d) with q | q
    · rw [q]
      split
      · rename_i g; exact .inr g
      · exact .inl rfl
    · exact .inr q
theorem ofW_filter (s : List Site) (d : List UInt8) : ∀ l : List Held, sumW s (l.filter fun h => isD d h.digest) = ofW s d l
  | [] => rfl
  | h :: l => by
    have ih := ofW_filter s d l
    rw [List.filter_cons, ofW]
    by_cases e : h.digest = d
    · rw [if_pos (by simp [isD, e]), if_pos e, sumW, ih]
    · rw [if_neg (by simp [isD, e]), if_neg e, ih]; omega
/-- The weights of the sites that are among these. -/
def siteSum (ns : List (List UInt8)) : List Site → Int
  | [] => 0
  | x :: s => (if x.name ∈ ns then x.weight else 0) + siteSum ns s
theorem siteSum_app (ns : List (List UInt8)) : ∀ a b : List Site, siteSum ns (a ++ b) = siteSum ns a + siteSum ns b
  | [], b => by simp [siteSum]
  | x :: a, b => by rw [List.cons_append, siteSum, siteSum, siteSum_app ns a b]; omega
theorem siteSum_congr {ns ms : List (List UInt8)} (h : ∀ x, x ∈ ns ↔ x ∈ ms) : ∀ s : List Site, siteSum ns s = siteSum ms s
  | [] => rfl
  | x :: s => by rw [siteSum, siteSum, siteSum_congr h s]; simp only [h x.name]
theorem siteSum_cons {n : List UInt8} {ns : List (List UInt8)} (h : n ∉ ns) : ∀ s : List Site, siteSum (n :: ns) s = siteSum [n] s + siteSum ns s
  | [] => rfl
  | x :: s => by
    rw [siteSum, siteSum, siteSum, siteSum_cons h s]
    by_cases e : x.name = n
    · rw [if_pos (by simp [e]), if_pos (by simp [e]), if_neg (by rw [e]; exact h)]; omega
    · by_cases e2 : x.name ∈ ns
      · rw [if_pos (by simp [e2]), if_neg (by simp [e]), if_pos e2]; omega
      · rw [if_neg (by simp [e, e2]), if_neg (by simp [e]), if_neg e2]; omega
theorem siteSum_none {n : List UInt8} : ∀ {s : List Site}, (∀ x ∈ s, x.name ≠ n) → siteSum [n] s = 0
  | [], _ => rfl
  | x :: s, h => by
    rw [siteSum, siteSum_none (s := s) (fun y hy => h y (by simp [hy])), if_neg (by simpa using h x (by simp))]; rfl
theorem siteSum_one {n : List UInt8} {s : List Site} (hs : s.Pairwise (fun a b => Op.bytesLess a.name b.name = true)) {k : Nat} (hk : k < s.length) (h : s[k].name = n) : siteSum [n] s = s[k].weight := by
  have e : s = s.take k ++ s[k] :: s.drop (k + 1) := by rw [← List.drop_eq_getElem_cons hk, List.take_append_drop]
  have hp := List.pairwise_iff_getElem.1 hs
  conv => lhs; rw [e]
  rw [siteSum_app, siteSum, siteSum_none (s := s.take k), siteSum_none (s := s.drop (k + 1)), if_pos (by simp [h])]
  · omega
  · intro x hx
    obtain ⟨j, hj, rfl⟩ := List.getElem_of_mem hx
    rw [List.length_drop] at hj
    rw [List.getElem_drop, ← h]
    exact Ne.symm (bl_ne (hp k (k + 1 + j) hk (by omega) (by omega)))
  · intro x hx
    obtain ⟨j, hj, rfl⟩ := List.getElem_of_mem hx
    rw [List.length_take] at hj
    rw [List.getElem_take, ← h]
    exact bl_ne (hp j k (by omega) hk (by omega))
theorem siteSum_held {s : List Site} (hs : s.Pairwise (fun a b => Op.bytesLess a.name b.name = true)) : ∀ {p : List Held}, (∀ h ∈ p, ∃ k : Nat, k < s.length ∧ siteIdx s h.site = k) → (p.Pairwise fun a b => a.site ≠ b.site) → siteSum (p.map (·.site)) s = sumW s p
  | [], _, _ => by
    rw [sumW]
    clear hs
    induction s with
    | nil => rfl
    | cons x s ih => rw [siteSum, List.map_nil, if_neg (by simp)]; simp at ih; rw [ih]; rfl
  | h :: p, hk, hp => by
    rw [List.map_cons, siteSum_cons, siteSum_held hs (fun x hx => hk x (by simp [hx])) hp.of_cons, sumW]
    · obtain ⟨k, hkl, e⟩ := hk h (by simp)
      rw [wtOf, e, Int.toNat_natCast, getD_at _ _ hkl, siteSum_one hs hkl]
      rcases siteIdx_range s h.site with ⟨q, _⟩ | ⟨k', hk', q, q2⟩
      · omega
      · have : k = k' := by omega
        subst this; exact q2
    · intro hx
      obtain ⟨x, hx, e⟩ := List.mem_map.1 hx
      exact List.rel_of_pairwise_cons hp hx e.symm
theorem siteSum_empty : ∀ s : List Site, siteSum [] s = 0
  | [] => rfl
  | x :: s => by rw [siteSum, siteSum_empty s, if_neg (by simp)]; rfl
/-- What each vote is like. -/
theorem vote_counts {s : List Site} {l : List Held} (h : copiesFault s l = 0) {V : Vote} (hV : V ∈ votesOf s l) :
    V.right.length + V.wrong.length = many l V.item ∧ (V.digest = [] ↔ V.right = []) ∧ (V.digest ≠ [] → 2 * siteSum V.right s > siteSum (V.right ++ V.wrong) s) := by
  have hsort := copies_sorted h
  obtain ⟨p, hp0, rfl, hp⟩ := votesOf_part hsort hV
  have hpm : ∀ x ∈ p, x ∈ l ∧ x.item = (voteOf s p).item := fun x hx => by
    rw [hp, List.mem_filter] at hx
    exact ⟨hx.1, of_decide_eq_true hx.2⟩
  have hl0 : l ≠ [] := fun e => by rw [e] at hp; exact hp0 hp
  have hok := copies_VoteOk h hl0
  have hkp : ∀ h ∈ p, ∃ k : Nat, k < s.length ∧ siteIdx s h.site = k := fun x hx => hok.1 x (hpm x hx).1
  have hss := sites_sorted (copies_ok h).1
  have hpp : p.Pairwise HLt := by rw [hp]; exact hsort.sublist List.filter_sublist
  have hpd : p.Pairwise fun a b => a.site ≠ b.site := by
    refine hpp.imp_of_mem fun {a b} ha hb hab => ?_
    rcases hab with q | ⟨_, q⟩
    · exact absurd ((hpm a ha).2.trans (hpm b hb).2.symm) (bl_ne q)
    · exact bl_ne q
  have hdig : ∀ x ∈ p, x.digest ≠ [] := fun x hx => copies_dig h (hpm x hx).1
  have hmany : many l (voteOf s p).item = p.length := by rw [many]; exact congrArg List.length hp.symm
  rw [hmany]
  obtain ⟨d, hd⟩ : ∃ d, voteDig s p = d := ⟨_, rfl⟩
  have hr : (voteOf s p).right = sitesOf (isD d) p := by rw [voteOf, hd]
  have hw : (voteOf s p).wrong = sitesOf (notD d) p := by rw [voteOf, hd]
  have hdd : (voteOf s p).digest = d := by rw [voteOf, hd]
  rw [hr, hw, hdd]
  have hrs : siteSum (sitesOf (isD d) p) s = ofW s d p := by
    rw [sitesOf, siteSum_held hss (fun x hx => hkp x (List.mem_filter.1 hx).1) (hpd.sublist List.filter_sublist), ofW_filter]
  have has : siteSum (sitesOf (isD d) p ++ sitesOf (notD d) p) s = sumW s p := by
    rw [← siteSum_held hss hkp hpd]
    refine siteSum_congr (fun x => ?_) s
    rw [List.mem_append, sitesOf, sitesOf, List.mem_map, List.mem_map, List.mem_map]
    constructor
    · rintro (⟨y, hy, e⟩ | ⟨y, hy, e⟩) <;> exact ⟨y, (List.mem_filter.1 hy).1, e⟩
    · rintro ⟨y, hy, e⟩
      by_cases q : y.digest = d
      · exact .inl ⟨y, List.mem_filter.2 ⟨hy, by simp [isD, q]⟩, e⟩
      · exact .inr ⟨y, List.mem_filter.2 ⟨hy, by simp [notD, q]⟩, e⟩
  have hwin : d = [] ∨ 2 * ofW s d p > sumW s p := by
    rw [← hd]; exact voteDig_cases s p p []
  have hpos : ∀ x ∈ p, 1 ≤ wtOf s x ∧ wtOf s x ≤ 1000 := fun x hx => wtOf_range hok (hpm x hx).1
  refine ⟨?_, ⟨fun e => ?_, fun e => ?_⟩, fun e => ?_⟩
  · rw [sitesOf, sitesOf, List.length_map, List.length_map]
    clear hp hpm hkp hpp hpd hdig hmany hd hr hw hdd hrs has hwin hpos hV hp0
    induction p with
    | nil => rfl
    | cons x p ih =>
      rw [List.filter_cons, List.filter_cons]
      by_cases q : x.digest = d
      · rw [if_pos (by simp [isD, q]), if_neg (by simp [notD, q])]; simp only [List.length_cons]; omega
      · rw [if_neg (by simp [isD, q]), if_pos (by simp [notD, q])]; simp only [List.length_cons]; omega
  · rw [e, sitesOf, List.filter_eq_nil_iff.2 (fun x hx => by simpa [isD] using hdig x hx)]; rfl
  · rcases hwin with q | q
    · exact q
    · rw [← hrs, e] at q
      have h0 := siteSum_empty s
      have := (sumW_range hpos).1
      omega
  · rcases hwin with q | q
    · exact absurd q e
    · rw [hrs, has]; exact q
end Go.Proofs.YtnkdcmibafjplaaGreatDoor
