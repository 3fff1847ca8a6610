/-
  Files at three sites, of which one has lost or changed some: the copies, the votes, the repairs, in plain words.
  Files at three sites: the votes, the repairs, the votes behind them, in plain words.
-/
import Derived.Test.YtnkdcmibafjplaaGreatDoorMend3
import Derived.Test.YtnkdcmibafjplaaGreatDoorPkgOf
namespace Go.Proofs.YtnkdcmibafjplaaGreatDoor
open Go.RowKit
set_option linter.unusedVariables false
set_option linter.unusedSimpArgs false

def siteR : List Site := [⟨[97], 1, 100⟩, ⟨[98], 1, 100⟩, ⟨[99], 1, 100⟩]
def costR : List Cst := [⟨[97], [98], 1⟩, ⟨[97], [99], 2⟩, ⟨[98], [97], 1⟩, ⟨[98], [99], 3⟩, ⟨[99], [97], 2⟩, ⟨[99], [98], 3⟩]
def nmS (k : Nat) : List UInt8 := [UInt8.ofNat (97 + k)]
def itemR (i : Nat) : List UInt8 := [102, UInt8.ofNat (97 + i)]
/-- The digest of item i at site k; d: the right digests, x: the other ones. -/
def digR (d x : Nat → List UInt8) (bad i k : Nat) : List UInt8 := if k = bad ∧ i % 2 = 0 then x i else d i
def copyR (d x : Nat → List UInt8) (bad i k : Nat) : Held := ⟨itemR i, nmS k, digR d x bad i k⟩
def rowR (d x : Nat → List UInt8) (bad : Nat) (gone : Int) (i : Nat) : List Held := ((List.range 3).filter fun k => decide (¬ (k = bad ∧ (i : Int) = gone))).map (copyR d x bad i)
def copiesR (d x : Nat → List UInt8) (bad : Nat) (gone : Int) (n : Nat) : List Held := (List.range n).flatMap (rowR d x bad gone)
theorem ofNat_lt {a b : Nat} (hb : b < 256) (h : a < b) : UInt8.ofNat a < UInt8.ofNat b := by
  rw [UInt8.lt_iff_toNat_lt, UInt8.toNat_ofNat_of_lt' (by show a < 256; omega), UInt8.toNat_ofNat_of_lt' (by show b < 256; omega)]
  exact h
theorem one_lt {a b : UInt8} (h : a < b) : Op.bytesLess [a] [b] = true := by
  rw [Op.bytesLess]
  simp [h]
theorem item_lt {i j : Nat} (hj : j < 100) (h : i < j) : Op.bytesLess (itemR i) (itemR j) = true := by
  have := one_lt (ofNat_lt (a := 97 + i) (b := 97 + j) (by omega) (by omega))
  unfold itemR
  rw [Op.bytesLess, show decide ((102 : UInt8) < 102) = false from by decide, this]
  rfl
theorem site_lt {i j : Nat} (hj : j < 100) (h : i < j) : Op.bytesLess (nmS i) (nmS j) = true := one_lt (ofNat_lt (by omega) (by omega))
theorem row_mem {d x : Nat → List UInt8} {bad : Nat} {gone : Int} {i : Nat} {h : Held} : h ∈ rowR d x bad gone i ↔ ∃ k, k < 3 ∧ ¬ (k = bad ∧ (i : Int) = gone) ∧ h = copyR d x bad i k := by
  unfold rowR
  rw [List.mem_map]
  constructor
  · rintro ⟨k, hk, rfl⟩
    rw [List.mem_filter, List.mem_range, decide_eq_true_eq] at hk
    exact ⟨k, hk.1, hk.2, rfl⟩
  · rintro ⟨k, h1, h2, rfl⟩
    exact ⟨k, by rw [List.mem_filter, List.mem_range, decide_eq_true_eq]; exact ⟨h1, h2⟩, rfl⟩
theorem copies_mem {d x : Nat → List UInt8} {bad : Nat} {gone : Int} {n : Nat} {h : Held} : h ∈ copiesR d x bad gone n ↔ ∃ i, i < n ∧ ∃ k, k < 3 ∧ ¬ (k = bad ∧ (i : Int) = gone) ∧ h = copyR d x bad i k := by
  unfold copiesR
  rw [List.mem_flatMap]
  constructor
  · rintro ⟨i, hi, hh⟩
    exact ⟨i, List.mem_range.1 hi, row_mem.1 hh⟩
  · rintro ⟨i, hi, hh⟩
    exact ⟨i, List.mem_range.2 hi, row_mem.2 hh⟩
theorem row_len (d x : Nat → List UInt8) (bad : Nat) (gone : Int) (i : Nat) : (rowR d x bad gone i).length ≤ 3 := by
  unfold rowR
  rw [List.length_map]
  exact Nat.le_trans (List.length_filter_le _ _) (by simp)
theorem copies_len (d x : Nat → List UInt8) (bad : Nat) (gone : Int) : ∀ n, (copiesR d x bad gone n).length ≤ 3 * n
  | 0 => by simp [copiesR]
  | n + 1 => by
    have h1 := copies_len d x bad gone n
    have h2 := row_len d x bad gone n
    unfold copiesR at h1 ⊢
    rw [List.range_succ, List.flatMap_append, List.length_append]
    simp only [List.flatMap_cons, List.flatMap_nil, List.append_nil]
    omega
/-- The copies are sorted. -/
theorem row_sorted (d x : Nat → List UInt8) (bad : Nat) (gone : Int) (i : Nat) : HSorted (rowR d x bad gone i) := by
  unfold HSorted rowR
  rw [List.pairwise_map]
  refine List.Pairwise.filter _ ?_
  have h3 : (List.range 3).Pairwise (· < ·) := List.pairwise_lt_range
  refine (List.Pairwise.and_mem.1 h3).imp ?_
  rintro a b ⟨_, hb, hab⟩
  rw [hc_lt]
  exact .inr ⟨rfl, site_lt (by have := List.mem_range.1 hb; omega) hab⟩
theorem copiesR_sorted (d x : Nat → List UInt8) (bad : Nat) (gone : Int) : ∀ n, n ≤ 90 → HSorted (copiesR d x bad gone n)
  | 0, _ => List.Pairwise.nil
  | n + 1, hn => by
    have h1 := copiesR_sorted d x bad gone n (by omega)
    have h2 := row_sorted d x bad gone n
    unfold HSorted at h1 h2 ⊢
    unfold copiesR at h1 ⊢
    rw [List.range_succ, List.flatMap_append]
    simp only [List.flatMap_cons, List.flatMap_nil, List.append_nil]
    rw [List.pairwise_append]
    refine ⟨h1, h2, fun a ha b hb => ?_⟩
    obtain ⟨i, hi, k, _, _, rfl⟩ := copies_mem.1 (show a ∈ copiesR d x bad gone n from ha)
    obtain ⟨q, _, _, rfl⟩ := row_mem.1 hb
    rw [hc_lt]
    exact .inl (item_lt (by omega) hi)
end Go.Proofs.YtnkdcmibafjplaaGreatDoor
namespace Go.Proofs.YtnkdcmibafjplaaGreatDoor
open Go.RowKit
set_option linter.unusedVariables false
set_option linter.unusedSimpArgs false

theorem dig_ne0 {d : List UInt8} (h : isDig d = true) : d ≠ [] := by
  rintro rfl
  exact absurd h (by decide)
theorem siteR_ok : sitesFault siteR = 0 := by decide
theorem costR_ok : costsFault siteR costR = 0 := by decide
theorem siteR_idx {k : Nat} (h : k < 3) : siteIdx siteR (nmS k) = k := by
  have : k = 0 ∨ k = 1 ∨ k = 2 := by omega
  rcases this with rfl | rfl | rfl <;> rfl
theorem item_nm {i : Nat} (h : i < 20) : isNm (itemR i) = true := by
  revert h
  revert i
  decide
theorem wt_site {h : Held} {k : Nat} (hk : k < 3) (e : h.site = nmS k) : wtOf siteR h = 1 := by
  rw [wtOf, e, siteR_idx hk]
  have : k = 0 ∨ k = 1 ∨ k = 2 := by omega
  rcases this with rfl | rfl | rfl <;> rfl
theorem ofW_two {s : List Site} {d e : List UInt8} (hne : e ≠ d) : ∀ {l : List Held}, (∀ h ∈ l, 0 ≤ wtOf s h) → ofW s d l + ofW s e l ≤ sumW s l
  | [], _ => by simp [ofW, sumW]
  | h :: l, hl => by
    have h1 := ofW_two hne (l := l) fun x hx => hl x (by simp [hx])
    have h2 := hl h (by simp)
    rw [ofW, ofW, sumW]
    by_cases q : h.digest = d
    · rw [if_pos q, if_neg (fun k => hne (by rw [← k, q]))]; omega
    · rw [if_neg q]; split <;> omega
theorem maj_go {s : List Site} {d : List UInt8} {all : List Held} (h1 : 2 * ofW s d all > sumW s all) (h2 : ∀ e, e ≠ d → ¬ 2 * ofW s e all > sumW s all) : ∀ (p : List Held) (e : List UInt8), (∃ h ∈ p, h.digest = d) ∨ e = d → voteDigGo s all p e = d
  | [], e, h => by
    rcases h with ⟨_, h, _⟩ | h
    · simp at h
    · exact h
  | x :: p, e, h => by
    rw [voteDigGo]
    by_cases q : x.digest = d
    · rw [if_pos (by rw [q]; exact h1)]
      exact maj_go h1 h2 p _ (.inr q)
    · rw [if_neg (h2 _ q)]
      refine maj_go h1 h2 p _ ?_
      rcases h with ⟨y, hy, h⟩ | h
      · rcases List.mem_cons.1 hy with rfl | hy
        · exact absurd h q
        · exact .inl ⟨y, hy, h⟩
      · exact .inr h
/-- A majority. -/
theorem maj {s : List Site} {d : List UInt8} {all : List Held} (hw : ∀ h ∈ all, 0 ≤ wtOf s h) (h1 : 2 * ofW s d all > sumW s all) : voteDig s all = d := by
  refine maj_go h1 (fun e he h => ?_) all [] (.inl ?_)
  · have := ofW_two he hw
    omega
  · have : ofW s d all ≠ 0 ∨ ofW s d all = 0 := by omega
    rcases this with h | h
    · apply Classical.byContradiction
      intro hno
      apply h
      clear h h1 hw
      induction all with
      | nil => rfl
      | cons x l ih =>
        rw [ofW, if_neg (fun e => hno ⟨x, by simp, e⟩), ih (fun ⟨y, hy, e⟩ => hno ⟨y, by simp [hy], e⟩)]
        rfl
    · exfalso
      have hs : 0 ≤ sumW s all := by
        clear h h1
        induction all with
        | nil => simp [sumW]
        | cons x l ih =>
          have := ih fun y hy => hw y (by simp [hy])
          have := hw x (by simp)
          rw [sumW]; omega
      omega
/-- The cheapest is found where there is one. -/
theorem chL_found {right : List (List UInt8)} {to : List UInt8} : ∀ (l : List Cst) (b : List UInt8 × Int), (∀ x ∈ l, 0 ≤ x.cost) → (0 ≤ b.2 ∨ ∃ x ∈ l, x.to = to ∧ x.frm ∈ right) → 0 ≤ (l.foldl (chStep right to) b).2
  | [], b, _, h => by
    rcases h with h | ⟨_, h, _⟩
    · exact h
    · simp at h
  | x :: l, b, hc, h => by
    rw [List.foldl_cons]
    refine chL_found l _ (fun y hy => hc y (by simp [hy])) ?_
    have hx := hc x (by simp)
    unfold chStep chOk
    rcases h with h | ⟨y, hy, h1, h2⟩
    · left
      split <;> assumption
    · rcases List.mem_cons.1 hy with rfl | hy
      · left
        by_cases hb : 0 ≤ b.2
        · split <;> assumption
        · rw [if_pos (by simp [h1, h2]; omega)]
          exact hx
      · exact .inr ⟨y, hy, h1, h2⟩
theorem cost_at {i k : Nat} (hi : i < 3) (hk : k < 3) (h : i ≠ k) : ∃ x ∈ costR, x.to = nmS k ∧ x.frm = nmS i := by
  have h1 : i = 0 ∨ i = 1 ∨ i = 2 := by omega
  have h2 : k = 0 ∨ k = 1 ∨ k = 2 := by omega
  rcases h1 with rfl | rfl | rfl <;> rcases h2 with rfl | rfl | rfl <;> first | exact absurd rfl h | decide
section
variable {d x : Nat → List UInt8} {bad : Nat} {gone : Int} {n : Nat}
theorem row_wt {i : Nat} : ∀ h ∈ rowR d x bad gone i, wtOf siteR h = 1 := fun h hh => by
  obtain ⟨k, hk, _, rfl⟩ := row_mem.1 hh
  exact wt_site hk rfl
theorem sumW_row {i : Nat} : sumW siteR (rowR d x bad gone i) = (rowR d x bad gone i).length := by
  have := row_wt (d := d) (x := x) (bad := bad) (gone := gone) (i := i)
  revert this
  generalize rowR d x bad gone i = l
  intro h
  induction l with
  | nil => rfl
  | cons a l ih => rw [sumW, h a (by simp), ih (fun y hy => h y (by simp [hy])), List.length_cons]; omega
theorem row_maj (hb : bad < 3) {i : Nat} : 2 * ofW siteR (d i) (rowR d x bad gone i) > sumW siteR (rowR d x bad gone i) := by
  rw [sumW_row]
  have w : ∀ k, k < 3 → wtOf siteR (copyR d x bad i k) = 1 := fun k hk => wt_site hk rfl
  have e : rowR d x bad gone i = ((List.range 3).filter fun k => decide (¬ (k = bad ∧ (i : Int) = gone))).map (copyR d x bad i) := rfl
  have h : bad = 0 ∨ bad = 1 ∨ bad = 2 := by omega
  have hr : List.range 3 = [0, 1, 2] := rfl
  rw [e, hr]
  have w0 := w 0 (by decide)
  have w1 := w 1 (by decide)
  have w2 := w 2 (by decide)
  have dg : ∀ k, (copyR d x bad i k).digest = digR d x bad i k := fun _ => rfl
  have d1 : ∀ k, k ≠ bad → digR d x bad i k = d i := fun k hk => by unfold digR; rw [if_neg (fun q => hk q.1)]
  rcases h with rfl | rfl | rfl <;> by_cases hg : (i : Int) = gone <;> simp [hg, ofW, w0, w1, w2, dg, d1] <;> (try split) <;> omega
theorem row_vote (hb : bad < 3) {i : Nat} : voteDig siteR (rowR d x bad gone i) = d i :=
  maj (fun h hh => by rw [row_wt h hh]; decide) (row_maj hb)
theorem copiesR_ok (hn : n ≤ 20) (hd : ∀ i, i < n → isDig (d i) = true) (hx : ∀ i, i < n → isDig (x i) = true) : copiesFault siteR (copiesR d x bad gone n) = 0 := by
  refine copies_mk siteR_ok ?_ (copiesR_sorted d x bad gone n (by omega)) fun h hh => ?_
  · have := copies_len d x bad gone n
    omega
  · obtain ⟨i, hi, k, hk, _, rfl⟩ := copies_mem.1 hh
    refine ⟨item_nm (by omega), ⟨k, hk, siteR_idx hk⟩, ?_⟩
    show isDig (digR d x bad i k) = true
    unfold digR
    split
    · exact hx i hi
    · exact hd i hi
theorem item_inj {i j : Nat} (hi : i < 100) (hj : j < 100) (h : itemR i = itemR j) : i = j := by
  rcases Nat.lt_trichotomy i j with g | g | g
  · exact absurd h (bl_ne (item_lt hj g))
  · exact g
  · exact absurd h.symm (bl_ne (item_lt hi g))
theorem row_filter (hn : n ≤ 90) {i : Nat} (hi : i < n) : (copiesR d x bad gone n).filter (ofIt (itemR i)) = rowR d x bad gone i := by
  have key : ∀ m, m ≤ 90 → (copiesR d x bad gone m).filter (ofIt (itemR i)) = if i < m then rowR d x bad gone i else [] := by
    intro m
    induction m with
    | zero => intro _; rfl
    | succ m ih =>
      intro hm
      have e : copiesR d x bad gone (m + 1) = copiesR d x bad gone m ++ rowR d x bad gone m := by
        unfold copiesR
        rw [List.range_succ, List.flatMap_append]
        simp
      rw [e, List.filter_append, ih (by omega)]
      by_cases q : i = m
      · subst q
        rw [if_neg (by omega), if_pos (by omega), List.nil_append, List.filter_eq_self]
        intro h hh
        obtain ⟨k, _, _, rfl⟩ := row_mem.1 hh
        exact decide_eq_true rfl
      · rw [List.filter_eq_nil_iff.2 (fun h hh => ?_), List.append_nil]
        · by_cases g : i < m
          · rw [if_pos g, if_pos (by omega)]
          · rw [if_neg g, if_neg (by omega)]
        · obtain ⟨k, _, _, rfl⟩ := row_mem.1 hh
          have hne : itemR m ≠ itemR i := fun h => q (item_inj (by omega) (by omega) h.symm)
          show ¬ decide (itemR m = itemR i) = true
          rw [decide_eq_true_iff]
          exact hne
  rw [key n hn, if_pos hi]
theorem items_R (hn : n ≤ 20) : (votesOf siteR (copiesR d x bad gone n)).map (·.item) = (List.range n).map itemR := by
  have hs := hs_iff.1 (copiesR_sorted d x bad gone n (by omega))
  refine bl_ext (votes_items hs).1 ?_ fun it => ?_
  · rw [List.pairwise_map]
    refine (List.Pairwise.and_mem.1 (List.pairwise_lt_range (n := n))).imp ?_
    rintro a b ⟨_, hb, hab⟩
    exact item_lt (by have := List.mem_range.1 hb; omega) hab
  · rw [(votes_items hs).2, List.mem_map]
    constructor
    · rintro ⟨h, hh, rfl⟩
      obtain ⟨i, hi, k, hk, _, rfl⟩ := copies_mem.1 hh
      exact ⟨i, List.mem_range.2 hi, rfl⟩
    · rintro ⟨i, hi, rfl⟩
      have hi := List.mem_range.1 hi
      by_cases q : bad = 0
      · exact ⟨copyR d x bad i 1, copies_mem.2 ⟨i, hi, 1, by decide, fun e => by omega, rfl⟩, rfl⟩
      · exact ⟨copyR d x bad i 0, copies_mem.2 ⟨i, hi, 0, by decide, fun e => q e.1.symm, rfl⟩, rfl⟩
/-- Each vote is of an item, right, and can be mended. -/
theorem vote_R (hn : n ≤ 20) (hb : bad < 3) (hd : ∀ i, i < n → isDig (d i) = true) {v : Vote} (hv : v ∈ votesOf siteR (copiesR d x bad gone n)) : ∃ i, i < n ∧ v.item = itemR i ∧ v.digest = d i ∧ fineB siteR costR v = true := by
  have hs := copiesR_sorted d x bad gone n (by omega)
  obtain ⟨g1, g2, h, hh, hi⟩ := vote_right hs hv
  obtain ⟨i, hin, k, hk, _, rfl⟩ := copies_mem.1 hh
  have hi : itemR i = v.item := hi
  rw [← hi, row_filter (by omega) hin] at g2
  have hdg : v.digest = d i := by rw [g2]; exact row_vote hb
  refine ⟨i, hin, hi.symm, hdg, ?_⟩
  unfold fineB
  rw [hdg, decide_eq_false (dig_ne0 (hd i hin)), Bool.not_false, Bool.true_and, List.all_eq_true]
  intro y hy
  have hr : ∀ k, k < 3 → k ≠ bad → nmS k ∈ v.right := fun k hk hkb => (g1 _).2 ⟨copyR d x bad i k, copies_mem.2 ⟨i, hin, k, hk, fun e => hkb e.1, rfl⟩, hi, by
    rw [hdg]; show digR d x bad i k = _; unfold digR; rw [if_neg (fun e => hkb e.1)], rfl⟩
  unfold okB
  split
  · rfl
  · rename_i hno
    rw [decide_eq_true_iff]
    obtain ⟨k, hk, e⟩ : ∃ k, k < 3 ∧ y.name = nmS k := by
      simp only [siteR, List.mem_cons, List.not_mem_nil, or_false] at hy
      rcases hy with rfl | rfl | rfl
      · exact ⟨0, by decide, rfl⟩
      · exact ⟨1, by decide, rfl⟩
      · exact ⟨2, by decide, rfl⟩
    have hkb : k = bad := Classical.byContradiction fun h => hno (.inr (by rw [e]; exact hr k hk h))
    obtain ⟨z, hz1, hz2⟩ : ∃ z, z < 3 ∧ z ≠ bad := by
      by_cases q : bad = 0
      · exact ⟨1, by decide, by omega⟩
      · exact ⟨0, by decide, by omega⟩
    obtain ⟨c, hc, c1, c2⟩ := cost_at hz1 hk (by omega)
    exact chL_found costR _ (by decide) (.inr ⟨c, hc, by rw [c1, e], by rw [c2]; exact hr z hz1 hz2⟩)
theorem built_rnd {m : Nat} {out : List Rpr} (h : Built m out) : ∀ r ∈ out, 1 ≤ r.rnd ∧ r.rnd ≤ out.length := by
  induction h with
  | nil => simp
  | @snoc out r h hr ih =>
    intro y hy
    rw [List.length_append, List.length_singleton]
    rcases List.mem_append.1 hy with hy | hy
    · have := ih y hy
      omega
    · simp only [List.mem_singleton] at hy
      subst hy
      rw [hr]
      have h1 := sentN_le y.frm out
      have h2 := Nat.div_le_self (sentN y.frm out) m
      generalize sentN y.frm out / m = q at *
      omega
theorem voteOf_total (s : List Site) (p : List Held) : (voteOf s p).right.length + (voteOf s p).wrong.length = p.length := by
  show (sitesOf (isD (voteDig s p)) p).length + (sitesOf (notD (voteDig s p)) p).length = _
  generalize voteDig s p = e
  induction p with
  | nil => rfl
  | cons h p ih =>
    unfold sitesOf isD notD at ih ⊢
    rw [List.length_map, List.length_map] at *
    by_cases q : h.digest = e <;> simp [List.filter_cons, q] at ih ⊢ <;> omega
theorem votes_total (s : List Site) : ∀ (m : Nat) (l : List Held), l.length ≤ m → ((votesOf s l).map fun v => v.right.length + v.wrong.length).sum = l.length
  | m, [], _ => by rw [votesOf_nil]; rfl
  | 0, h :: r, hl => by simp at hl
  | m + 1, h :: r, hl => by
    rw [votesOf, List.map_cons, List.sum_cons, voteOf_total, votes_total s m _ (by rw [List.length_drop, List.length_cons]; rw [List.length_cons] at hl; omega), List.length_take, List.length_drop]
    have := runLen_le h.item r
    rw [List.length_cons]
    omega
theorem sum_const {α : Type} (f : α → Nat) (c : Nat) : ∀ (l : List α), (∀ a ∈ l, f a = c) → (l.map f).sum = c * l.length
  | [], _ => rfl
  | a :: l, h => by
    rw [List.map_cons, List.sum_cons, h a (by simp), sum_const f c l (fun b hb => h b (by simp [hb])), List.length_cons, Nat.mul_add]
    omega
def outR (d x : Nat → List UInt8) (bad : Nat) (gone : Int) (n : Nat) : List Rpr := (repL siteR costR ((2 : Nat) : Int) (votesOf siteR (copiesR d x bad gone n))).1
/-- The whole: the repairs, the copies after them, the votes behind. -/
theorem repaired_plain (hn : n ≤ 20) (hb : bad < 3) (hd : ∀ i, i < n → isDig (d i) = true) (hx : ∀ i, i < n → isDig (x i) = true) :
    repFault siteR (copiesR d x bad gone n) costR 2 = 0 ∧ repOut siteR (copiesR d x bad gone n) costR 2 = (outR d x bad gone n, []) ∧
    aftFault siteR (copiesR d x bad gone n) (outR d x bad gone n) = 0 ∧ aftOut siteR (copiesR d x bad gone n) (outR d x bad gone n) = aftL (copiesR d x bad gone n) (outR d x bad gone n) ∧ (aftL (copiesR d x bad gone n) (outR d x bad gone n)).length = 3 * n ∧
    copiesFault siteR (aftL (copiesR d x bad gone n) (outR d x bad gone n)) = 0 ∧ (votesOf siteR (aftL (copiesR d x bad gone n) (outR d x bad gone n))).length = n ∧
    ∀ (k : Nat) (h : k < (votesOf siteR (aftL (copiesR d x bad gone n) (outR d x bad gone n))).length), (votesOf siteR (aftL (copiesR d x bad gone n) (outR d x bad gone n)))[k].digest = d k ∧ (votesOf siteR (aftL (copiesR d x bad gone n) (outR d x bad gone n)))[k].right.length = 3 ∧ (votesOf siteR (aftL (copiesR d x bad gone n) (outR d x bad gone n)))[k].wrong.length = 0 := by
  have hc := copiesR_ok (bad := bad) (gone := gone) hn hd hx
  have hit := items_R (d := d) (x := x) (bad := bad) (gone := gone) hn
  have hvo := fun (v : Vote) (hv : v ∈ votesOf siteR (copiesR d x bad gone n)) => vote_R hn hb hd hv
  have hlen : (votesOf siteR (copiesR d x bad gone n)).length = n := by
    have := congrArg List.length hit
    rwa [List.length_map, List.length_map, List.length_range] at this
  have hlost : (repL siteR costR ((2 : Nat) : Int) (votesOf siteR (copiesR d x bad gone n))).2 = [] := by
    have := (repW_proj (costs := costR) (most := ((2 : Nat) : Int)) (s := siteR) (votesOf siteR (copiesR d x bad gone n)) ([], [])).2
    rw [List.nil_append] at this
    rw [show (repL siteR costR ((2 : Nat) : Int) (votesOf siteR (copiesR d x bad gone n))).2 = _ from this, List.filter_eq_nil_iff.2, List.map_nil]
    intro v hv
    obtain ⟨_, _, _, _, h⟩ := hvo v hv
    rw [h]
    decide
  have hrl : (outR d x bad gone n).length ≤ 60 := by
    have := (repL_len siteR costR ((2 : Nat) : Int) (votesOf siteR (copiesR d x bad gone n)) _ (Nat.le_refl _)).1
    rw [List.take_length, hlen] at this
    have h3 : siteR.length = 3 := rfl
    rw [h3] at this
    show (repL siteR costR ((2 : Nat) : Int) (votesOf siteR (copiesR d x bad gone n))).1.length ≤ 60
    omega
  have hf : repFault siteR (copiesR d x bad gone n) costR ((2 : Nat) : Int) = 0 := by
    unfold repFault
    rw [if_neg (by rw [hc]; decide), if_neg (by rw [costR_ok]; decide), if_neg (by decide), if_neg (by show ¬ 3000 < (outR d x bad gone n).length; omega)]
  have ho : repOut siteR (copiesR d x bad gone n) costR ((2 : Nat) : Int) = (outR d x bad gone n, []) := by
    rw [repOut, if_pos hf]
    exact Prod.ext rfl hlost
  have hbt : Built 2 (outR d x bad gone n) := built_rep (s := siteR) (costs := costR) (m := 2) (votesOf siteR (copiesR d x bad gone n)) ([], []) Built.nil
  have hrnd := built_rnd hbt
  have hal : (aftL (copiesR d x bad gone n) (outR d x bad gone n)).length ≤ 3000 := by
    have h1 := (aftL_facts (copiesR d x bad gone n) (outR d x bad gone n) (copies_hs hc) _ (Nat.le_refl _)).2
    rw [List.take_length] at h1
    have h2 := copies_len d x bad gone n
    omega
  have haf : aftFault siteR (copiesR d x bad gone n) (outR d x bad gone n) = 0 := by
    have hap : (outR d x bad gone n).Pairwise (fun a b => ¬ (a.item = b.item ∧ a.to = b.to)) := rep_apart (costs := costR) (mo := 2) hc
    have hok := fun r (hr : r ∈ outR d x bad gone n) => rep_ok (s := siteR) (l := copiesR d x bad gone n) (costs := costR) (mo := 2) hc (r := r) hr
    rw [aftFault_ok hc (by omega), if_neg (by omega)]
    intro j hj
    obtain ⟨v, hv, y, hy, g1, g2, g3, g4, g5, g6, g7, g8⟩ := hok _ (List.getElem_mem hj)
    obtain ⟨hh, hhl, e1, e2, e3⟩ := ((vote_right (copies_hs hc) hv).1 _).1 g4
    obtain ⟨_, ⟨k, _, k2⟩, _⟩ := copy_ok hc hhl
    obtain ⟨k', _, k3⟩ := site_idx hy
    have n1 : ¬ siteIdx siteR (outR d x bad gone n)[j].frm < 0 := by rw [← e3, k2]; omega
    have n2 : ¬ siteIdx siteR (outR d x bad gone n)[j].to < 0 := by rw [g5, k3]; omega
    have hw : withinB (outR d x bad gone n)[j].rnd 1 3000 = true := by
      have := hrnd _ (List.getElem_mem hj)
      simp only [withinB, decide_eq_true_eq]
      omega
    refine aftF_7 hj g8 n1 n2 hw (by rw [g6]; exact g1) ?_
    unfold twiceB
    rw [getD_at _ _ hj, List.any_eq_false]
    intro q hq
    obtain ⟨i, hi, rfl⟩ := List.mem_take_iff_getElem.1 hq
    have := List.pairwise_iff_getElem.1 hap i j (by omega) hj (by omega)
    simpa using this
  have hao : aftOut siteR (copiesR d x bad gone n) (outR d x bad gone n) = aftL (copiesR d x bad gone n) (outR d x bad gone n) := by rw [aftOut, if_pos haf]
  obtain ⟨hc2, hit2, hall⟩ := mend_all hf haf
  change copiesFault siteR (aftL (copiesR d x bad gone n) (outR d x bad gone n)) = 0 at hc2
  change (votesOf siteR (aftL (copiesR d x bad gone n) (outR d x bad gone n))).map (·.item) = _ at hit2
  change ∀ v' ∈ votesOf siteR (aftL (copiesR d x bad gone n) (outR d x bad gone n)), _ at hall
  rw [hit] at hit2
  have hlen2 : (votesOf siteR (aftL (copiesR d x bad gone n) (outR d x bad gone n))).length = n := by
    have := congrArg List.length hit2
    rwa [List.length_map, List.length_map, List.length_range] at this
  have hone : ∀ (k : Nat) (h : k < (votesOf siteR (aftL (copiesR d x bad gone n) (outR d x bad gone n))).length), (votesOf siteR (aftL (copiesR d x bad gone n) (outR d x bad gone n)))[k].digest = d k ∧ (votesOf siteR (aftL (copiesR d x bad gone n) (outR d x bad gone n)))[k].right.length = 3 ∧ (votesOf siteR (aftL (copiesR d x bad gone n) (outR d x bad gone n)))[k].wrong.length = 0 := by
    intro k h
    have hi' : (votesOf siteR (aftL (copiesR d x bad gone n) (outR d x bad gone n)))[k].item = itemR k := by
      have := congrArg (fun a => a[k]?) hit2
      simpa [List.getElem?_map, List.getElem?_eq_getElem h, List.getElem?_range (show k < n by omega)] using this
    obtain ⟨v, hv, hvi⟩ : ∃ v ∈ votesOf siteR (copiesR d x bad gone n), v.item = itemR k := by
      have : itemR k ∈ (votesOf siteR (copiesR d x bad gone n)).map (·.item) := by
        rw [hit]
        exact List.mem_map.2 ⟨k, List.mem_range.2 (by omega), rfl⟩
      obtain ⟨v, hv, e⟩ := List.mem_map.1 this
      exact ⟨v, hv, e⟩
    obtain ⟨i, hi, e1, e2, _⟩ := hvo v hv
    have hik : i = k := item_inj (by omega) (by omega) (by rw [← e1, hvi])
    obtain ⟨q1, q2, q3⟩ := hall _ (List.getElem_mem h) v hv (by rw [hi', hvi]) (by rw [hlost]; simp)
    rw [q1, q2, q3, e2, hik]
    exact ⟨rfl, rfl, rfl⟩
  refine ⟨hf, ho, haf, hao, ?_, hc2, hlen2, hone⟩
  rw [← votes_total siteR _ (aftL (copiesR d x bad gone n) (outR d x bad gone n)) (Nat.le_refl _), sum_const _ 3, hlen2]
  intro v hv
  obtain ⟨k, hk, rfl⟩ := List.getElem_of_mem hv
  obtain ⟨_, h2, h3⟩ := hone k hk
  rw [h2, h3]
end
end Go.Proofs.YtnkdcmibafjplaaGreatDoor
