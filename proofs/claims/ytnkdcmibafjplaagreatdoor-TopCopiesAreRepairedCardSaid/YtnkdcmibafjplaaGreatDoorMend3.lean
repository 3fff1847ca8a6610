/-
  Repairs repair: plain facts (1): the items that are voted on; what is sent.
  Repairs repair: plain facts (2): the copies after repairs, and how they are voted on.
  Repairs repair: plain facts (3): after the repairs each item that is not lost is right at all sites.
-/
import Derived.Test.YtnkdcmibafjplaaGreatDoorAftPlain
import Derived.Test.YtnkdcmibafjplaaGreatDoorVCount
namespace Go.Proofs.YtnkdcmibafjplaaGreatDoor
open Go.RowKit
set_option linter.unusedVariables false
set_option linter.unusedSimpArgs false

theorem votes_items {s : List Site} {l : List Held} (hs : l.Pairwise HLt) : ((votesOf s l).map (·.item)).Pairwise (fun a b => Op.bytesLess a b = true) ∧ ∀ it, it ∈ (votesOf s l).map (·.item) ↔ ∃ h ∈ l, h.item = it := by
  match l with
  | [] => rw [votesOf]; simp
  | h :: r =>
    rw [votesOf]
    obtain ⟨ha, hb⟩ := take_run h.item r
    obtain ⟨n, hn⟩ : ∃ n, runLen h.item r = n := ⟨_, rfl⟩
    have hnl := runLen_le h.item r
    rw [hn] at ha hb hnl ⊢
    have hsr : r.Pairwise HLt := hs.of_cons
    have hle : ∀ x ∈ r.drop n, Op.bytesLess h.item x.item = true := by
      intro x hx
      obtain ⟨j, hj, rfl⟩ := List.getElem_of_mem hx
      rw [List.length_drop] at hj
      rw [List.getElem_drop]
      have h0 : Op.bytesLess h.item r[n].item = true := by
        rcases List.rel_of_pairwise_cons hs (List.getElem_mem (show n < r.length by omega)) with q | ⟨q, _⟩
        · exact q
        · exact absurd q.symm (hb (by omega))
      cases j with
      | zero => exact h0
      | succ j =>
        rcases List.pairwise_iff_getElem.1 hsr n (n + (j + 1)) (by omega) (by omega) (by omega) with q | ⟨q, _⟩
        · exact bl_trans h0 q
        · exact q ▸ h0
    have h2 : (h :: r).drop (n + 1) = r.drop n := rfl
    have hi : (voteOf s ((h :: r).take (n + 1))).item = h.item := by rw [show (h :: r).take (n + 1) = h :: r.take n from rfl, voteOf]; rfl
    have hterm : (r.drop n).length < (h :: r).length := by simp only [List.length_drop, List.length_cons]; omega
    obtain ⟨i1, i2⟩ := votes_items (s := s) (l := r.drop n) (hsr.sublist (List.drop_sublist _ _))
    rw [List.map_cons, hi, h2]
    refine ⟨List.pairwise_cons.2 ⟨fun it hit => ?_, i1⟩, fun it => ?_⟩
    · obtain ⟨x, hx, rfl⟩ := (i2 it).1 hit
      exact hle x hx
    · rw [List.mem_cons, i2]
      constructor
      · rintro (rfl | ⟨x, hx, rfl⟩)
        · exact ⟨h, by simp, rfl⟩
        · exact ⟨x, List.mem_cons_of_mem _ (List.mem_of_mem_drop hx), rfl⟩
      · rintro ⟨x, hx, rfl⟩
        rcases List.mem_cons.1 hx with rfl | hx
        · exact .inl rfl
        · rw [← List.take_append_drop n r] at hx
          rcases List.mem_append.1 hx with hx | hx
          · exact .inl (ha x hx)
          · exact .inr ⟨x, hx, rfl⟩
termination_by l.length
theorem bl_ext : ∀ {a b : List (List UInt8)}, a.Pairwise (fun x y => Op.bytesLess x y = true) → b.Pairwise (fun x y => Op.bytesLess x y = true) → (∀ x, x ∈ a ↔ x ∈ b) → a = b
  | [], [], _, _, _ => rfl
  | [], y :: b, _, _, h => absurd ((h y).2 (by simp)) (by simp)
  | x :: a, [], _, _, h => absurd ((h x).1 (by simp)) (by simp)
  | x :: a, y :: b, ha, hb, h => by
    obtain ⟨ha1, ha2⟩ := List.pairwise_cons.1 ha
    obtain ⟨hb1, hb2⟩ := List.pairwise_cons.1 hb
    have hxy : x = y := by
      rcases List.mem_cons.1 ((h x).1 (by simp)) with e | e
      · exact e
      · rcases List.mem_cons.1 ((h y).2 (by simp)) with e2 | e2
        · exact e2.symm
        · have := bl_trans (ha1 y e2) (hb1 x e)
          rw [bl_irr] at this; cases this
    subst hxy
    rw [bl_ext ha2 hb2 (fun z => ?_)]
    constructor
    · intro hz
      rcases List.mem_cons.1 ((h z).1 (by simp [hz])) with rfl | e
      · have := ha1 _ hz; rw [bl_irr] at this; cases this
      · exact e
    · intro hz
      rcases List.mem_cons.1 ((h z).2 (by simp [hz])) with rfl | e
      · have := hb1 _ hz; rw [bl_irr] at this; cases this
      · exact e
theorem hs_iff {l : List Held} : HSorted l ↔ l.Pairwise HLt := by
  unfold HSorted
  constructor <;> intro h <;> refine h.imp fun {a b} q => ?_
  · exact (hc_lt a b).1 q
  · exact (hc_lt a b).2 q
/-- What is sent. -/
def rproj (r : Rpr) : List UInt8 × List UInt8 × List UInt8 := (r.item, r.frm, r.to)
def sendG (costs : List Cst) (v : Vote) (x : Site) : List (List UInt8 × List UInt8 × List UInt8) :=
  if v.digest = [] ∨ x.name ∈ v.right then [] else if 0 ≤ (chL v.right x.name costs).2 then [(v.item, (chL v.right x.name costs).1, x.name)] else []
def okB (costs : List Cst) (v : Vote) (x : Site) : Bool := if v.digest = [] ∨ x.name ∈ v.right then true else decide (0 ≤ (chL v.right x.name costs).2)
def fineB (s : List Site) (costs : List Cst) (v : Vote) : Bool := !decide (v.digest = []) && s.all (okB costs v)
section
variable {costs : List Cst} {most : Int} {s : List Site}
theorem repStep_proj (v : Vote) (st : List Rpr × Bool) (x : Site) : (repStep v costs most st x).1.map rproj = st.1.map rproj ++ sendG costs v x ∧ (repStep v costs most st x).2 = (st.2 && okB costs v x) := by
  unfold repStep sendG okB
  split
  · simp
  · split
    · rename_i h; simp [rproj, rprOf, h]
    · rename_i h; simp [h]
theorem fold_proj (v : Vote) : ∀ (s : List Site) (st : List Rpr × Bool), (s.foldl (repStep v costs most) st).1.map rproj = st.1.map rproj ++ s.flatMap (sendG costs v) ∧ (s.foldl (repStep v costs most) st).2 = (st.2 && s.all (okB costs v))
  | [], st => by simp
  | x :: s, st => by
    obtain ⟨h1, h2⟩ := repStep_proj (costs := costs) (most := most) v st x
    obtain ⟨h3, h4⟩ := fold_proj v s (repStep v costs most st x)
    rw [List.foldl_cons, h3, h4, h1, h2, List.flatMap_cons, List.all_cons, List.append_assoc, Bool.and_assoc]
    exact ⟨rfl, rfl⟩
theorem repW_proj : ∀ (V : List Vote) (st : List Rpr × List (List UInt8)), (V.foldl (repW s costs most) st).1.map rproj = st.1.map rproj ++ V.flatMap (fun v => s.flatMap (sendG costs v)) ∧ (V.foldl (repW s costs most) st).2 = st.2 ++ (V.filter fun v => !fineB s costs v).map (·.item)
  | [], st => by simp
  | v :: V, st => by
    obtain ⟨h1, h2⟩ := fold_proj (costs := costs) (most := most) v s (st.1, !decide (v.digest = []))
    obtain ⟨h3, h4⟩ := repW_proj V (repW s costs most st v)
    have e1 : (repW s costs most st v).1.map rproj = st.1.map rproj ++ s.flatMap (sendG costs v) := h1
    have e2 : (repW s costs most st v).2 = st.2 ++ if fineB s costs v = true then [] else [v.item] := by
      have : (repV v costs most st.1 s).2 = fineB s costs v := h2
      show (if (repV v costs most st.1 s).2 = true then st.2 else st.2 ++ [v.item]) = _
      rw [this]
      split <;> simp
    rw [List.foldl_cons, h3, h4, e1, e2, List.flatMap_cons, List.append_assoc, List.append_assoc]
    refine ⟨rfl, ?_⟩
    rw [List.filter_cons]
    cases fineB s costs v <;> simp
theorem repL_mem {V : List Vote} {r : Rpr} (h : r ∈ (repL s costs most V).1) : ∃ v ∈ V, ∃ x ∈ s, v.digest ≠ [] ∧ x.name ∉ v.right ∧ 0 ≤ (chL v.right x.name costs).2 ∧ r.item = v.item ∧ r.frm = (chL v.right x.name costs).1 ∧ r.to = x.name := by
  have hm : rproj r ∈ V.flatMap (fun v => s.flatMap (sendG costs v)) := by
    have := (repW_proj (costs := costs) (most := most) (s := s) V ([], [])).1
    rw [List.map_nil, List.nil_append] at this
    rw [← this]
    exact List.mem_map_of_mem h
  obtain ⟨v, hv, hm⟩ := List.mem_flatMap.1 hm
  obtain ⟨x, hx, hm⟩ := List.mem_flatMap.1 hm
  unfold sendG at hm
  split at hm
  · simp at hm
  · rename_i h1
    split at hm
    · rename_i h2
      simp only [List.mem_singleton, rproj, Prod.mk.injEq] at hm
      exact ⟨v, hv, x, hx, fun e => h1 (.inl e), fun e => h1 (.inr e), h2, hm⟩
    · simp at hm
theorem repL_has {V : List Vote} {v : Vote} (hv : v ∈ V) {x : Site} (hx : x ∈ s) (h1 : v.digest ≠ []) (h2 : x.name ∉ v.right) (h3 : 0 ≤ (chL v.right x.name costs).2) : ∃ r ∈ (repL s costs most V).1, r.item = v.item ∧ r.frm = (chL v.right x.name costs).1 ∧ r.to = x.name := by
  have hm : (v.item, (chL v.right x.name costs).1, x.name) ∈ (repL s costs most V).1.map rproj := by
    have := (repW_proj (costs := costs) (most := most) (s := s) V ([], [])).1
    rw [List.map_nil, List.nil_append] at this
    rw [show (repL s costs most V).1.map rproj = _ from this]
    refine List.mem_flatMap.2 ⟨v, hv, List.mem_flatMap.2 ⟨x, hx, ?_⟩⟩
    unfold sendG
    rw [if_neg (fun e => e.elim h1 h2), if_pos h3]
    simp
  obtain ⟨r, hr, e⟩ := List.mem_map.1 hm
  simp only [rproj, Prod.mk.injEq] at e
  exact ⟨r, hr, e⟩
theorem repL_apart {V : List Vote} (hV : (V.map (·.item)).Pairwise (fun a b => Op.bytesLess a b = true)) (hs : s.Pairwise (fun a b => Op.bytesLess a.name b.name = true)) : (repL s costs most V).1.Pairwise (fun a b => ¬ (a.item = b.item ∧ a.to = b.to)) := by
  have hp : ((repL s costs most V).1.map rproj).Pairwise (fun a b => ¬ (a.1 = b.1 ∧ a.2.2 = b.2.2)) := by
    have := (repW_proj (costs := costs) (most := most) (s := s) V ([], [])).1
    rw [List.map_nil, List.nil_append] at this
    rw [show (repL s costs most V).1.map rproj = _ from this, List.pairwise_flatMap]
    have hit : ∀ (v : Vote) (z : List UInt8 × List UInt8 × List UInt8), z ∈ s.flatMap (sendG costs v) → z.1 = v.item := fun v z hz => by
      obtain ⟨x, _, hz⟩ := List.mem_flatMap.1 hz
      unfold sendG at hz
      split at hz
      · simp at hz
      · split at hz
        · simp only [List.mem_singleton] at hz; rw [hz]
        · simp at hz
    refine ⟨fun v _ => ?_, (List.pairwise_map.1 hV).imp fun {a b} h x hx y hy e => ?_⟩
    · rw [List.pairwise_flatMap]
      have hto : ∀ (x : Site) (z : List UInt8 × List UInt8 × List UInt8), z ∈ sendG costs v x → z.2.2 = x.name := fun x z hz => by
        unfold sendG at hz
        split at hz
        · simp at hz
        · split at hz
          · simp only [List.mem_singleton] at hz; rw [hz]
          · simp at hz
      refine ⟨fun x _ => ?_, hs.imp fun {a b} h x hx y hy e => ?_⟩
      · unfold sendG
        split
        · simp
        · split <;> simp
      · exact bl_ne h (by rw [← hto a x hx, ← hto b y hy]; exact e.2)
    · exact bl_ne h (by rw [← hit a x hx, ← hit b y hy]; exact e.1)
  exact List.pairwise_map.1 hp
theorem repL_lost {V : List Vote} {v : Vote} (hv : v ∈ V) (h : v.item ∉ (repL s costs most V).2) : fineB s costs v = true := by
  have := (repW_proj (costs := costs) (most := most) (s := s) V ([], [])).2
  rw [List.nil_append] at this
  rw [show (repL s costs most V).2 = _ from this] at h
  cases hf : fineB s costs v with
  | true => rfl
  | false => exact absurd (List.mem_map.2 ⟨v, List.mem_filter.2 ⟨hv, by rw [hf]; rfl⟩, rfl⟩) h
end
/-- The rounds: a site sends at most so many in one. -/
inductive Built (m : Nat) : List Rpr → Prop
  | nil : Built m []
  | snoc {out : List Rpr} {r : Rpr} (h : Built m out) (hr : r.rnd = ((sentN r.frm out / m : Nat) : Int) + 1) : Built m (out ++ [r])
theorem built_step {v : Vote} {costs : List Cst} {m : Nat} {st : List Rpr × Bool} (x : Site) (h : Built m st.1) : Built m (repStep v costs (m : Int) st x).1 := by
  unfold repStep
  split
  · exact h
  · split
    · exact .snoc h (by rw [rprOf]; simp)
    · exact h
theorem built_fold {v : Vote} {costs : List Cst} {m : Nat} : ∀ (s : List Site) (st : List Rpr × Bool), Built m st.1 → Built m (s.foldl (repStep v costs (m : Int)) st).1
  | [], _, h => h
  | x :: s, st, h => built_fold s _ (built_step x h)
theorem built_rep {s : List Site} {costs : List Cst} {m : Nat} : ∀ (V : List Vote) (st : List Rpr × List (List UInt8)), Built m st.1 → Built m (V.foldl (repW s costs (m : Int)) st).1
  | [], _, h => h
  | v :: V, st, h => built_rep V _ (built_fold s _ h)
def cntR (out : List Rpr) (f : List UInt8) (n : Int) : Nat := (out.filter fun y => decide (y.frm = f ∧ y.rnd = n)).length
theorem cntR_snoc (out : List Rpr) (r : Rpr) (f : List UInt8) (n : Int) : cntR (out ++ [r]) f n = cntR out f n + if r.frm = f ∧ r.rnd = n then 1 else 0 := by
  rw [cntR, List.filter_append, List.length_append]
  by_cases h : r.frm = f ∧ r.rnd = n <;> simp [h, cntR]
theorem built_cnt {m : Nat} (hm : 0 < m) {out : List Rpr} (h : Built m out) (f : List UInt8) (q : Nat) : cntR out f ((q : Int) + 1) + min (sentN f out) (q * m) = min (sentN f out) (q * m + m) := by
  induction h with
  | nil => simp [cntR, sentN]
  | @snoc out r h hr ih =>
    rw [cntR_snoc, sentN_snoc]
    by_cases e : r.frm = f
    · rw [e] at hr
      have hq : (r.frm = f ∧ r.rnd = (q : Int) + 1) ↔ sentN f out / m = q := by
        rw [hr]; constructor
        · rintro ⟨_, h⟩; omega
        · intro h; exact ⟨e, by omega⟩
      rw [if_pos e]
      generalize sentN f out = n at *
      generalize hc : cntR out f ((q : Int) + 1) = c at *
      by_cases hd : n / m = q
      · rw [if_pos (hq.2 hd)]
        have h1 : q * m ≤ n := by rw [← hd]; exact Nat.div_mul_le_self n m
        have h2 : n < q * m + m := by rw [← hd]; exact Nat.lt_div_mul_add hm
        generalize q * m = a at *
        omega
      · rw [if_neg (fun k => hd (hq.1 k))]
        have h3 : n < q * m ∨ q * m + m ≤ n := by
          rcases Nat.lt_or_gt_of_ne hd with h4 | h4
          · exact .inl ((Nat.div_lt_iff_lt_mul hm).1 h4)
          · right
            have := (Nat.le_div_iff_mul_le hm).1 (show q + 1 ≤ n / m from h4)
            rw [Nat.add_mul, Nat.one_mul] at this
            exact this
        generalize q * m = a at *
        omega
    · rw [if_neg (fun k => e k.1), if_neg e]
      simpa using ih
theorem built_pos {m : Nat} {out : List Rpr} (h : Built m out) : ∀ r ∈ out, ∃ q : Nat, r.rnd = (q : Int) + 1 := by
  induction h with
  | nil => simp
  | @snoc out r h hr ih =>
    intro x hx
    rcases List.mem_append.1 hx with hx | hx
    · exact ih x hx
    · simp only [List.mem_singleton] at hx
      subst hx
      exact ⟨_, hr⟩
theorem built_le {m : Nat} (hm : 0 < m) {out : List Rpr} (h : Built m out) {r : Rpr} (hr : r ∈ out) : cntR out r.frm r.rnd ≤ m := by
  obtain ⟨q, hq⟩ := built_pos h r hr
  rw [hq]
  have := built_cnt hm h r.frm q
  generalize q * m = a at *
  omega
end Go.Proofs.YtnkdcmibafjplaaGreatDoor
namespace Go.Proofs.YtnkdcmibafjplaaGreatDoor
open Go.RowKit
set_option linter.unusedVariables false
set_option linter.unusedSimpArgs false

theorem hs_ne {l : List Held} (hs : HSorted l) {a b : Held} (ha : a ∈ l) (hb : b ∈ l) (h : a.item = b.item ∧ a.site = b.site) : a = b := by
  obtain ⟨i, hi, rfl⟩ := List.getElem_of_mem ha
  obtain ⟨j, hj, rfl⟩ := List.getElem_of_mem hb
  have he := (hc_eq _ _).2 h
  rcases Nat.lt_trichotomy i j with h1 | h1 | h1
  · have := sorted_lt hs h1 hj; omega
  · subst h1; rfl
  · have := (hc_gt _ _).2 (sorted_lt hs h1 hi); omega
theorem putL_mem_iff : ∀ (L : List Held) (h z : Held), HSorted L → (z ∈ putL L h ↔ z = h ∨ (z ∈ L ∧ ¬ (z.item = h.item ∧ z.site = h.site)))
  | [], h, z, _ => by simp [putL]
  | y :: L, h, z, hs => by
    obtain ⟨h1, h2⟩ := List.pairwise_cons.1 hs
    rw [putL]
    split
    · rename_i hy
      have hne : ¬ (y.item = h.item ∧ y.site = h.site) := fun q => by have := (hc_eq y h).2 q; omega
      rw [List.mem_cons, putL_mem_iff L h z h2, List.mem_cons]
      constructor
      · rintro (rfl | rfl | ⟨q1, q2⟩)
        · exact .inr ⟨.inl rfl, hne⟩
        · exact .inl rfl
        · exact .inr ⟨.inr q1, q2⟩
      · rintro (rfl | ⟨rfl | q1, q2⟩)
        · exact .inr (.inl rfl)
        · exact .inl rfl
        · exact .inr (.inr ⟨q1, q2⟩)
    · split
      · rename_i hn hy
        have hk := (hc_eq y h).1 hy
        rw [List.mem_cons, List.mem_cons]
        constructor
        · rintro (rfl | q)
          · exact .inl rfl
          · refine .inr ⟨.inr q, fun e => ?_⟩
            have := h1 z q
            have e2 := (hc_eq z h).2 e
            rw [hc_congr hy] at this
            have := (hc_gt z h).2 this
            omega
        · rintro (rfl | ⟨rfl | q1, q2⟩)
          · exact .inl rfl
          · exact absurd hk q2
          · exact .inr q1
      · rename_i hn hy
        have hgt : heldCmp h y < 0 := (hc_gt y h).1 (by omega)
        rw [List.mem_cons]
        constructor
        · rintro (rfl | q)
          · exact .inl rfl
          · refine .inr ⟨q, fun e => ?_⟩
            have e2 := (hc_eq z h).2 e
            rcases List.mem_cons.1 q with rfl | q
            · exact hy e2
            · have := hc_tr hgt (h1 z q)
              have := (hc_gt z h).2 this
              omega
        · rintro (rfl | ⟨q, _⟩)
          · exact .inl rfl
          · exact .inr q
theorem fold_mem (l : List Held) : ∀ (R : List Rpr) (L : List Held) (z : Held), HSorted L → R.Pairwise (fun a b => ¬ (a.item = b.item ∧ a.to = b.to)) →
    (z ∈ R.foldl (fun out x => putL out (rprHeld l x)) L ↔ (∃ r ∈ R, z = rprHeld l r) ∨ (z ∈ L ∧ ∀ r ∈ R, ¬ (z.item = r.item ∧ z.site = r.to)))
  | [], L, z, _, _ => by simp
  | r :: R, L, z, hs, hp => by
    obtain ⟨h1, h2⟩ := List.pairwise_cons.1 hp
    rw [List.foldl_cons, fold_mem l R _ z (putL_sorted L _ hs) h2, putL_mem_iff L _ z hs]
    constructor
    · rintro (⟨x, hx, rfl⟩ | ⟨rfl | ⟨q1, q2⟩, q3⟩)
      · exact .inl ⟨x, by simp [hx], rfl⟩
      · exact .inl ⟨r, by simp, rfl⟩
      · refine .inr ⟨q1, fun x hx => ?_⟩
        rcases List.mem_cons.1 hx with rfl | hx
        · exact q2
        · exact q3 x hx
    · rintro (⟨x, hx, rfl⟩ | ⟨q1, q2⟩)
      · rcases List.mem_cons.1 hx with rfl | hx
        · exact .inr ⟨.inl rfl, fun y hy => h1 y hy⟩
        · exact .inl ⟨x, hx, rfl⟩
      · exact .inr ⟨.inr ⟨q1, q2 r (by simp)⟩, fun x hx => q2 x (by simp [hx])⟩
theorem heldL_mem : ∀ {l : List Held}, HSorted l → ∀ {h : Held}, h ∈ l → heldL h.item h.site l = h.digest
  | [], _, h, hm => by simp at hm
  | y :: l, hs, h, hm => by
    obtain ⟨h1, h2⟩ := List.pairwise_cons.1 hs
    rw [heldL]
    split
    · rename_i e
      rw [hs_ne hs (a := y) (b := h) (by simp) hm e]
    · rename_i e
      rcases List.mem_cons.1 hm with rfl | hm
      · exact absurd ⟨rfl, rfl⟩ e
      · exact heldL_mem h2 hm
/-- A vote on copies that are all alike. -/
theorem ofW_all {s : List Site} {d : List UInt8} : ∀ {p : List Held}, (∀ h ∈ p, h.digest = d) → ofW s d p = sumW s p
  | [], _ => rfl
  | h :: p, hd => by rw [ofW, sumW, if_pos (hd h (by simp)), ofW_all fun x hx => hd x (by simp [hx])]
theorem go_all {s : List Site} {d : List UInt8} {all : List Held} (hw : 0 < sumW s all) (ho : ofW s d all = sumW s all) : ∀ {p : List Held} {e : List UInt8}, (∀ h ∈ p, h.digest = d) → p ≠ [] ∨ e = d → voteDigGo s all p e = d
  | [], e, _, h => by rcases h with h | h; exact absurd rfl h; exact h
  | h :: p, e, hd, _ => by
    have h1 := hd h (by simp)
    rw [voteDigGo, h1, if_pos (by rw [ho]; omega)]
    exact go_all hw ho (fun x hx => hd x (by simp [hx])) (.inr rfl)
theorem vote_all {s : List Site} {d : List UInt8} {p : List Held} (h0 : p ≠ []) (hw : 0 < sumW s p) (hd : ∀ h ∈ p, h.digest = d) : (voteOf s p).digest = d ∧ (voteOf s p).right.length = p.length ∧ (voteOf s p).wrong = [] := by
  have hv : voteDig s p = d := go_all hw (ofW_all hd) hd (.inl h0)
  refine ⟨hv, ?_, ?_⟩
  · show (sitesOf (isD (voteDig s p)) p).length = _
    rw [sitesOf, List.length_map, List.filter_eq_self.2 (fun x hx => by rw [hv]; exact decide_eq_true (hd x hx))]
  · show sitesOf (notD (voteDig s p)) p = []
    rw [sitesOf, List.filter_eq_nil_iff.2 (fun x hx => by rw [hv]; simp [notD, hd x hx])]
    rfl
theorem sumW_pos {s : List Site} {p : List Held} (h0 : p ≠ []) (h : ∀ x ∈ p, 1 ≤ wtOf s x ∧ wtOf s x ≤ 1000) : 0 < sumW s p := by
  cases p with
  | nil => exact absurd rfl h0
  | cons a p =>
    have h1 := h a (by simp)
    have h2 := sumW_range (s := s) (l := p) fun x hx => h x (by simp [hx])
    rw [sumW]; omega
/-- What a copy is, where copies are without fault. -/
theorem copy_ok {s : List Site} {l : List Held} (h : copiesFault s l = 0) {x : Held} (hx : x ∈ l) : isNm x.item = true ∧ (∃ k : Nat, k < s.length ∧ siteIdx s x.site = k) ∧ isDig x.digest = true := by
  obtain ⟨j, hj, rfl⟩ := List.getElem_of_mem hx
  have hf := (copies_ok h).2.2 j hj
  unfold heldF at hf
  rw [getD_at _ _ hj] at hf
  split at hf
  · omega
  · rename_i h1
    split at hf
    · omega
    · rename_i h2
      split at hf
      · omega
      · rename_i h3
        refine ⟨by simpa using h1, ?_, by simpa using h3⟩
        rcases siteIdx_range s l[j].site with ⟨e, _⟩ | ⟨k, hk, e, _⟩
        · rw [e] at h2; omega
        · exact ⟨k, hk, e⟩
theorem copies_mk {s : List Site} {l : List Held} (h0 : sitesFault s = 0) (h3 : l.length ≤ 3000) (hs : HSorted l) (h : ∀ x ∈ l, isNm x.item = true ∧ (∃ k : Nat, k < s.length ∧ siteIdx s x.site = k) ∧ isDig x.digest = true) : copiesFault s l = 0 := by
  refine copiesFault_ok h0 (by omega) fun j hj => ?_
  obtain ⟨h1, ⟨k, _, h2⟩, h4⟩ := h _ (List.getElem_mem hj)
  refine heldF_5 hj h1 (by rw [h2]; omega) h4 ?_
  rintro ⟨q, hb⟩
  rw [← heldBad_cmp, decide_eq_true_iff] at hb
  have := sorted_lt hs (show j - 1 < j by omega) hj
  omega
theorem vote_right {s : List Site} {l : List Held} (hs : HSorted l) {v : Vote} (hv : v ∈ votesOf s l) : (∀ f, f ∈ v.right ↔ ∃ h ∈ l, h.item = v.item ∧ h.digest = v.digest ∧ h.site = f) ∧ v = voteOf s (l.filter (ofIt v.item)) ∧ ∃ h ∈ l, h.item = v.item := by
  obtain ⟨p, hp0, hp1, hp2⟩ := votesOf_part (hs_iff.1 hs) hv
  rw [hp2] at hp1
  refine ⟨fun f => ?_, hp1, ?_⟩
  · have hr : v.right = sitesOf (isD v.digest) (l.filter (ofIt v.item)) := by
      conv => lhs; rw [hp1]
      show sitesOf (isD (voteDig s _)) _ = _
      congr 2
      conv => rhs; rw [hp1]
      rfl
    rw [hr, sitesOf]
    constructor
    · intro hf
      obtain ⟨h, hh, rfl⟩ := List.mem_map.1 hf
      rw [List.mem_filter, List.mem_filter] at hh
      exact ⟨h, hh.1.1, of_decide_eq_true hh.1.2, of_decide_eq_true hh.2, rfl⟩
    · rintro ⟨h, h1, h2, h3, rfl⟩
      exact List.mem_map.2 ⟨h, List.mem_filter.2 ⟨List.mem_filter.2 ⟨h1, decide_eq_true h2⟩, decide_eq_true h3⟩, rfl⟩
  · rw [hp2] at hp0
    obtain ⟨x, hx⟩ := List.exists_mem_of_ne_nil _ hp0
    rw [List.mem_filter] at hx
    exact ⟨x, hx.1, of_decide_eq_true hx.2⟩
theorem vote_same {s : List Site} {l : List Held} (hs : HSorted l) {v u : Vote} (hv : v ∈ votesOf s l) (hu : u ∈ votesOf s l) (h : v.item = u.item) : v = u := by
  rw [(vote_right hs hv).2.1, (vote_right hs hu).2.1, h]
theorem site_idx {s : List Site} {x : Site} (hx : x ∈ s) : ∃ k : Nat, k < s.length ∧ siteIdx s x.name = k := by
  rcases siteIdx_range s x.name with ⟨_, h⟩ | ⟨k, hk, e, _⟩
  · exact absurd rfl (h x hx)
  · exact ⟨k, hk, e⟩
theorem idx_site {s : List Site} {t : List UInt8} {k : Nat} (hk : k < s.length) (h : siteIdx s t = k) : ∃ x ∈ s, x.name = t := by
  rcases siteIdx_range s t with ⟨e, _⟩ | ⟨j, hj, e, e2⟩
  · rw [e] at h; omega
  · exact ⟨_, List.getElem_mem hj, e2⟩
section
variable {s : List Site} {l : List Held} {costs : List Cst} {mo : Nat}
/-- Each repair. -/
theorem rep_ok (hc : copiesFault s l = 0) {r : Rpr} (hr : r ∈ (repL s costs (mo : Int) (votesOf s l)).1) :
    ∃ v ∈ votesOf s l, ∃ x ∈ s, v.digest ≠ [] ∧ x.name ∉ v.right ∧ r.item = v.item ∧ r.frm ∈ v.right ∧ r.to = x.name ∧ heldL r.item r.frm l = v.digest ∧ isDig v.digest = true ∧ isNm r.item = true := by
  obtain ⟨v, hv, x, hx, h1, h2, h3, h4, h5, h6⟩ := repL_mem hr
  have hs := copies_hs hc
  obtain ⟨g1, g2, _⟩ := vote_right hs hv
  have hfr : r.frm ∈ v.right := by
    rw [h5]
    rcases chL_cases v.right x.name costs with h | ⟨c, _, h, hm, _⟩
    · rw [h] at h3; exact absurd h3 (by decide)
    · rw [h]; exact hm
  obtain ⟨h, hh, e1, e2, e3⟩ := (g1 r.frm).1 hfr
  obtain ⟨k1, _, k3⟩ := copy_ok hc hh
  refine ⟨v, hv, x, hx, h1, h2, h4, hfr, h6, ?_, by rw [← e2]; exact k3, by rw [h4, ← e1]; exact k1⟩
  rw [h4, ← e1, ← e3, heldL_mem hs hh, e2]
end
end Go.Proofs.YtnkdcmibafjplaaGreatDoor
namespace Go.Proofs.YtnkdcmibafjplaaGreatDoor
open Go.RowKit
set_option linter.unusedVariables false
set_option linter.unusedSimpArgs false

theorem firstF_cases (f : Nat → Int) : ∀ n, firstF f n = 0 ∨ ∃ j, j < n ∧ firstF f n = f j
  | 0 => .inl rfl
  | n + 1 => by
    rw [firstF]
    split
    · exact .inr ⟨n, by omega, rfl⟩
    · rcases firstF_cases f n with h | ⟨j, hj, h⟩
      · exact .inl h
      · exact .inr ⟨j, by omega, h⟩
section
variable {s : List Site} {l : List Held} {costs : List Cst} {mo : Nat}
theorem rep_zero (h : repFault s l costs (mo : Int) = 0) : copiesFault s l = 0 ∧ costsFault s costs = 0 ∧ 0 < mo ∧ (repL s costs (mo : Int) (votesOf s l)).1.length ≤ 3000 ∧ repOut s l costs (mo : Int) = repL s costs (mo : Int) (votesOf s l) := by
  have ho : repOut s l costs (mo : Int) = repL s costs (mo : Int) (votesOf s l) := by rw [repOut, if_pos h]
  unfold repFault at h
  split at h
  · rename_i h1; exact absurd h h1
  · rename_i h1
    split at h
    · rename_i h2; exact absurd h h2
    · rename_i h2
      split at h
      · omega
      · rename_i h3
        split at h
        · omega
        · rename_i h4
          have h3 := Bool.not_eq_false _ ▸ h3
          simp only [withinB, decide_eq_true_eq] at h3
          exact ⟨by simpa using h1, by simpa using h2, by omega, by omega, ho⟩
theorem rep_apart (hc : copiesFault s l = 0) : (repL s costs (mo : Int) (votesOf s l)).1.Pairwise (fun a b => ¬ (a.item = b.item ∧ a.to = b.to)) :=
  repL_apart (votes_items (hs_iff.1 (copies_hs hc))).1 (sites_sorted (copies_ok hc).1)
theorem mend_fault (h : repFault s l costs (mo : Int) = 0) : aftFault s l (repL s costs (mo : Int) (votesOf s l)).1 = 0 ∨ aftFault s l (repL s costs (mo : Int) (votesOf s l)).1 = 1 ∨ aftFault s l (repL s costs (mo : Int) (votesOf s l)).1 = 2 := by
  obtain ⟨hc, _, _, hl, _⟩ := rep_zero h
  have hap := rep_apart (costs := costs) (mo := mo) hc
  have hok := fun r hr => rep_ok (s := s) (l := l) (costs := costs) (mo := mo) hc (r := r) hr
  generalize (repL s costs (mo : Int) (votesOf s l)).1 = R at *
  have hf : ∀ j, j < R.length → aftF s l R j = 0 ∨ aftF s l R j = 1 := fun j hj => by
    obtain ⟨v, hv, x, hx, g1, g2, g3, g4, g5, g6, g7, g8⟩ := hok _ (List.getElem_mem hj)
    obtain ⟨hh, hhl, e1, e2, e3⟩ := ((vote_right (copies_hs hc) hv).1 _).1 g4
    obtain ⟨_, ⟨k, _, k2⟩, _⟩ := copy_ok hc hhl
    obtain ⟨k', _, k3⟩ := site_idx hx
    have n1 : ¬ siteIdx s R[j].frm < 0 := by rw [← e3, k2]; omega
    have n2 : ¬ siteIdx s R[j].to < 0 := by rw [g5, k3]; omega
    cases hw : withinB R[j].rnd 1 3000 with
    | false => exact .inr (aftF_4 hj g8 n1 n2 hw)
    | true =>
      refine .inl (aftF_7 hj g8 n1 n2 hw (by rw [g6]; exact g1) ?_)
      unfold twiceB
      rw [getD_at _ _ hj, List.any_eq_false]
      intro y hy
      obtain ⟨i, hi, rfl⟩ := List.mem_take_iff_getElem.1 hy
      have := List.pairwise_iff_getElem.1 hap i j (by omega) hj (by omega)
      simpa using this
  unfold aftFault
  rw [if_neg (by rw [hc]; decide), if_neg (by omega)]
  split
  · rename_i hne
    rcases firstF_cases (aftF s l R) R.length with e | ⟨j, hj, e⟩
    · exact absurd e hne
    · rw [e]
      rcases hf j hj with e2 | e2
      · exact .inl e2
      · exact .inr (.inl e2)
  · split
    · exact .inr (.inr rfl)
    · exact .inl rfl
theorem mend_all (h : repFault s l costs (mo : Int) = 0) (ha : aftFault s l (repL s costs (mo : Int) (votesOf s l)).1 = 0) :
    copiesFault s (aftL l (repL s costs (mo : Int) (votesOf s l)).1) = 0 ∧ (votesOf s (aftL l (repL s costs (mo : Int) (votesOf s l)).1)).map (·.item) = (votesOf s l).map (·.item) ∧
    ∀ v' ∈ votesOf s (aftL l (repL s costs (mo : Int) (votesOf s l)).1), ∀ v ∈ votesOf s l, v'.item = v.item → v.item ∉ (repL s costs (mo : Int) (votesOf s l)).2 → v'.digest = v.digest ∧ v'.wrong = [] ∧ v'.right.length = s.length := by
  obtain ⟨hc, _, _, hl, _⟩ := rep_zero h
  have hs := copies_hs hc
  have hap := rep_apart (costs := costs) (mo := mo) hc
  have hok := fun r hr => rep_ok (s := s) (l := l) (costs := costs) (mo := mo) hc (r := r) hr
  have hhas := fun (v : Vote) (hv : v ∈ votesOf s l) (x : Site) (hx : x ∈ s) => repL_has (s := s) (costs := costs) (most := (mo : Int)) hv hx
  have hlost := fun (v : Vote) (hv : v ∈ votesOf s l) => repL_lost (s := s) (costs := costs) (most := (mo : Int)) hv
  generalize repL s costs (mo : Int) (votesOf s l) = Q at *
  obtain ⟨R, lost⟩ := Q
  dsimp only at *
  have hmem : ∀ z, z ∈ aftL l R ↔ (∃ r ∈ R, z = rprHeld l r) ∨ (z ∈ l ∧ ∀ r ∈ R, ¬ (z.item = r.item ∧ z.site = r.to)) := fun z => fold_mem l R l z hs hap
  have hs' : HSorted (aftL l R) := by
    have := (aftL_facts l R hs R.length (Nat.le_refl _)).1
    rwa [List.take_length] at this
  have hlen : (aftL l R).length ≤ 3000 := by
    unfold aftFault at ha
    split at ha
    · rename_i h1; exact absurd ha h1
    · split at ha
      · omega
      · split at ha
        · rename_i h1; exact absurd ha h1
        · split at ha
          · omega
          · omega
  have hc' : copiesFault s (aftL l R) = 0 := copies_mk (copies_ok hc).1 hlen hs' fun z hz => by
    rcases (hmem z).1 hz with ⟨r, hr, rfl⟩ | ⟨hz, _⟩
    · obtain ⟨v, hv, x, hx, g1, g2, g3, g4, g5, g6, g7, g8⟩ := hok r hr
      exact ⟨g8, by show ∃ k : Nat, k < s.length ∧ siteIdx s r.to = k; rw [g5]; exact site_idx hx, by show isDig (heldL r.item r.frm l) = true; rw [g6]; exact g7⟩
    · exact copy_ok hc hz
  have hitems : (votesOf s (aftL l R)).map (·.item) = (votesOf s l).map (·.item) := by
    refine bl_ext (votes_items (hs_iff.1 hs')).1 (votes_items (hs_iff.1 hs)).1 fun it => ?_
    rw [(votes_items (hs_iff.1 hs')).2, (votes_items (hs_iff.1 hs)).2]
    constructor
    · rintro ⟨z, hz, rfl⟩
      rcases (hmem z).1 hz with ⟨r, hr, rfl⟩ | ⟨hz, _⟩
      · obtain ⟨v, hv, x, hx, g1, g2, g3, g4, g5, g6, g7, g8⟩ := hok r hr
        obtain ⟨k, hk, e⟩ := (vote_right hs hv).2.2
        exact ⟨k, hk, by rw [e, ← g3]; rfl⟩
      · exact ⟨z, hz, rfl⟩
    · rintro ⟨z, hz, rfl⟩
      by_cases hex : ∃ r ∈ R, z.item = r.item ∧ z.site = r.to
      · obtain ⟨r, hr, e1, e2⟩ := hex
        exact ⟨rprHeld l r, (hmem _).2 (.inl ⟨r, hr, rfl⟩), e1.symm⟩
      · exact ⟨z, (hmem z).2 (.inr ⟨hz, fun r hr e => hex ⟨r, hr, e⟩⟩), rfl⟩
  refine ⟨hc', hitems, fun v' hv' v hv hi hnl => ?_⟩
  have hfine := hlost v hv hnl
  unfold fineB at hfine
  rw [Bool.and_eq_true, Bool.not_eq_true', decide_eq_false_iff_not, List.all_eq_true] at hfine
  obtain ⟨hd0, hall⟩ := hfine
  obtain ⟨gr, _, _⟩ := vote_right hs hv
  obtain ⟨_, hv2, z0, hz0, hz0i⟩ := vote_right hs' hv'
  rw [hi] at hv2 hz0i
  -- each copy of the item has the right digest
  have hdig : ∀ z ∈ (aftL l R).filter (ofIt v.item), z.digest = v.digest := fun z hz => by
    rw [List.mem_filter] at hz
    have hzi : z.item = v.item := of_decide_eq_true hz.2
    rcases (hmem z).1 hz.1 with ⟨r, hr, rfl⟩ | ⟨hzl, hno⟩
    · obtain ⟨u, hu, x, hx, g1, g2, g3, g4, g5, g6, g7, g8⟩ := hok r hr
      have e : u = v := vote_same hs hu hv (by rw [← g3]; exact hzi)
      show heldL r.item r.frm l = _
      rw [g6, e]
    · by_cases hzd : z.digest = v.digest
      · exact hzd
      · exfalso
        obtain ⟨_, ⟨k, hk, hk2⟩, _⟩ := copy_ok hc hzl
        obtain ⟨x, hx, hxn⟩ := idx_site hk hk2
        have hnr : x.name ∉ v.right := fun e => by
          obtain ⟨y, hy, e1, e2, e3⟩ := (gr _).1 e
          have := hs_ne hs hy hzl ⟨by rw [e1, hzi], by rw [e3, hxn]⟩
          rw [this] at e2
          exact hzd e2
        have hch := hall x hx
        unfold okB at hch
        rw [if_neg (fun e => e.elim hd0 hnr), decide_eq_true_iff] at hch
        obtain ⟨r, hr, e1, _, e3⟩ := hhas v hv x hx hd0 hnr hch
        exact hno r hr ⟨by rw [hzi, e1], by rw [e3, hxn]⟩
  have hsub : ((aftL l R).filter (ofIt v.item)).Pairwise HLt := (hs_iff.1 hs').sublist List.filter_sublist
  have hsites : ((aftL l R).filter (ofIt v.item)).map (·.site) = s.map (·.name) := by
    refine bl_ext ?_ ?_ fun t => ?_
    · rw [List.pairwise_map]
      refine hsub.imp_of_mem fun {a b} ha hb h => ?_
      rw [List.mem_filter] at ha hb
      rcases h with h | ⟨_, h⟩
      · rw [of_decide_eq_true ha.2, of_decide_eq_true hb.2, bl_irr] at h; cases h
      · exact h
    · rw [List.pairwise_map]
      exact sites_sorted (copies_ok hc).1
    · rw [List.mem_map, List.mem_map]
      constructor
      · rintro ⟨z, hz, rfl⟩
        obtain ⟨_, ⟨k, hk, hk2⟩, _⟩ := copy_ok hc' (List.mem_filter.1 hz).1
        exact idx_site hk hk2
      · rintro ⟨x, hx, rfl⟩
        by_cases hxr : x.name ∈ v.right
        · obtain ⟨y, hy, e1, e2, e3⟩ := (gr _).1 hxr
          by_cases hex : ∃ r ∈ R, y.item = r.item ∧ y.site = r.to
          · obtain ⟨r, hr, q1, q2⟩ := hex
            exact ⟨rprHeld l r, List.mem_filter.2 ⟨(hmem _).2 (.inl ⟨r, hr, rfl⟩), decide_eq_true (by show r.item = _; rw [← q1, e1])⟩, by show r.to = _; rw [← q2, e3]⟩
          · exact ⟨y, List.mem_filter.2 ⟨(hmem _).2 (.inr ⟨hy, fun r hr e => hex ⟨r, hr, e⟩⟩), decide_eq_true e1⟩, e3⟩
        · have hch := hall x hx
          unfold okB at hch
          rw [if_neg (fun e => e.elim hd0 hxr), decide_eq_true_iff] at hch
          obtain ⟨r, hr, e1, _, e3⟩ := hhas v hv x hx hd0 hxr hch
          exact ⟨rprHeld l r, List.mem_filter.2 ⟨(hmem _).2 (.inl ⟨r, hr, rfl⟩), decide_eq_true e1⟩, e3⟩
  have hpl : ((aftL l R).filter (ofIt v.item)).length = s.length := by
    have := congrArg List.length hsites
    rwa [List.length_map, List.length_map] at this
  have hp0 : (aftL l R).filter (ofIt v.item) ≠ [] := List.ne_nil_of_mem (List.mem_filter.2 ⟨hz0, decide_eq_true hz0i⟩)
  have hok' := copies_VoteOk hc' (List.ne_nil_of_mem hz0)
  have hw := sumW_pos (s := s) hp0 (fun x hx => wtOf_range hok' (List.mem_filter.1 hx).1)
  obtain ⟨q1, q2, q3⟩ := vote_all hp0 hw hdig
  rw [← hv2] at q1 q2 q3
  exact ⟨q1, q3, q2.trans hpl⟩
end
end Go.Proofs.YtnkdcmibafjplaaGreatDoor
