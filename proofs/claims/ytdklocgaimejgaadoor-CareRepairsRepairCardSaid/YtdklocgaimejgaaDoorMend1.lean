/-
  Repairs repair: plain facts (1): the items that are voted on; what is sent.
-/
import Derived.Test.YtdklocgaimejgaaDoorAftPlain
import Derived.Test.YtdklocgaimejgaaDoorVCount
namespace Go.Proofs.YtdklocgaimejgaaDoor
open Go.RowKit
set_option linter.unusedVariables false
set_option linter.unusedSimpArgs false

theorem votes_items {s : List Site} {l : List Held} (hs : l.Pairwise HLt) : ((votesOf s l).map (·.item)).Pairwise (fun a b => Op.bytesLess a b = true) ∧ ∀ it, it ∈ (votesOf s l).map (·.item) ↔ ∃ h ∈ l, h.item = it := by
  match l with
  | [] => rw [votesOf]; simp
  | h :: r =>
    rw [votesOf]
    obtain ⟨ha, hb⟩ := take_run h.item r
    obtain ⟨n, hn⟩ : ∃ n, runLen h.item r = n := ⟨_, rfl⟩
    have hnl := runLen_le h.item r
    rw [hn] at ha hb hnl ⊢
    have hsr : r.Pairwise HLt := hs.of_cons
    have hle : ∀ x ∈ r.drop n, Op.bytesLess h.item x.item = true := by
      intro x hx
      obtain ⟨j, hj, rfl⟩ := List.getElem_of_mem hx
      rw [List.length_drop] at hj
      rw [List.getElem_drop]
      have h0 : Op.bytesLess h.item r[n].item = true := by
        rcases List.rel_of_pairwise_cons hs (List.getElem_mem (show n < r.length by omega)) with q | ⟨q, _⟩
        · exact q
        · exact absurd q.symm (hb (by omega))
      cases j with
      | zero => exact h0
      | succ j =>
        rcases List.pairwise_iff_getElem.1 hsr n (n + (j + 1)) (by omega) (by omega) (by omega) with q | ⟨q, _⟩
        · exact bl_trans h0 q
        · exact q ▸ h0
    have h2 : (h :: r).drop (n + 1) = r.drop n := rfl
    have hi : (voteOf s ((h :: r).take (n + 1))).item = h.item := by rw [show (h :: r).take (n + 1) = h :: r.take n from rfl, voteOf]; rfl
    have hterm : (r.drop n).length < (h :: r).length := by simp only [List.length_drop, List.length_cons]; omega
    obtain ⟨i1, i2⟩ := votes_items (s := s) (l := r.drop n) (hsr.sublist (List.drop_sublist _ _))
    rw [List.map_cons, hi, h2]
    refine ⟨List.pairwise_cons.2 ⟨fun it hit => ?_, i1⟩, fun it => ?_⟩
    · obtain ⟨x, hx, rfl⟩ := (i2 it).1 hit
      exact hle x hx
    · rw [List.mem_cons, i2]
      constructor
      · rintro (rfl | ⟨x, hx, rfl⟩)
        · exact ⟨h, by simp, rfl⟩
        · exact ⟨x, List.mem_cons_of_mem _ (List.mem_of_mem_drop hx), rfl⟩
      · rintro ⟨x, hx, rfl⟩
        rcases List.mem_cons.1 hx with rfl | hx
        · exact .inl rfl
        · rw [← List.take_append_drop n r] at hx
          rcases List.mem_append.1 hx with hx | hx
          · exact .inl (ha x hx)
          · exact .inr ⟨x, hx, rfl⟩
termination_by l.length
theorem bl_ext : ∀ {a b : List (List UInt8)}, a.Pairwise (fun x y => Op.bytesLess x y = true) → b.Pairwise (fun x y => Op.bytesLess x y = true) → (∀ x, x ∈ a ↔ x ∈ b) → a = b
  | [], [], _, _, _ => rfl
  | [], y :: b, _, _, h => absurd ((h y).2 (by simp)) (by simp)
  | x :: a, [], _, _, h => absurd ((h x).1 (by simp)) (by simp)
  | x :: a, y :: b, ha, hb, h => by
    obtain ⟨ha1, ha2⟩ := List.pairwise_cons.1 ha
    obtain ⟨hb1, hb2⟩ := List.pairwise_cons.1 hb
    have hxy : x = y := by
      rcases List.mem_cons.1 ((h x).1 (by simp)) with e | e
      · exact e
      · rcases List.mem_cons.1 ((h y).2 (by simp)) with e2 | e2
        · exact e2.symm
        · have := bl_trans (ha1 y e2) (hb1 x e)
          rw [bl_irr] at this; cases this
    subst hxy
    rw [bl_ext ha2 hb2 (fun z => ?_)]
    constructor
    · intro hz
      rcases List.mem_cons.1 ((h z).1 (by simp [hz])) with rfl | e
      · have := ha1 _ hz; rw [bl_irr] at this; cases this
      · exact e
    · intro hz
      rcases List.mem_cons.1 ((h z).2 (by simp [hz])) with rfl | e
      · have := hb1 _ hz; rw [bl_irr] at this; cases this
      · exact e
theorem hs_iff {l : List Held} : HSorted l ↔ l.Pairwise HLt := by
  unfold HSorted
  constructor <;> intro h <;> refine h.imp fun {a b} q => ?_
  · exact (hc_lt a b).1 q
  · exact (hc_lt a b).2 q
/-- What is sent. -/
def rproj (r : Rpr) : List UInt8 × List UInt8 × List UInt8 := (r.item, r.frm, r.to)
def sendG (costs : List Cst) (v : Vote) (x : Site) : List (List UInt8 × List UInt8 × List UInt8) :=
  if v.digest = [] ∨ x.name ∈ v.right then [] else if 0 ≤ (chL v.right x.name costs).2 then [(v.item, (chL v.right x.name costs).1, x.name)] else []
def okB (costs : List Cst) (v : Vote) (x : Site) : Bool := if v.digest = [] ∨ x.name ∈ v.right then true else decide (0 ≤ (chL v.right x.name costs).2)
def fineB (s : List Site) (costs : List Cst) (v : Vote) : Bool := !decide (v.digest = []) && s.all (okB costs v)
section
variable {costs : List Cst} {most : Int} {s : List Site}
theorem repStep_proj (v : Vote) (st : List Rpr × Bool) (x : Site) : (repStep v costs most st x).1.map rproj = st.1.map rproj ++ sendG costs v x ∧ (repStep v costs most st x).2 = (st.2 && okB costs v x) := by
  unfold repStep sendG okB
  split
  · simp
  · split
    · rename_i h; simp [rproj, rprOf, h]
    · rename_i h; simp [h]
theorem fold_proj (v : Vote) : ∀ (s : List Site) (st : List Rpr × Bool), (s.foldl (repStep v costs most) st).1.map rproj = st.1.map rproj ++ s.flatMap (sendG costs v) ∧ (s.foldl (repStep v costs most) st).2 = (st.2 && s.all (okB costs v))
  | [], st => by simp
  | x :: s, st => by
    obtain ⟨h1, h2⟩ := repStep_proj (costs := costs) (most := most) v st x
    obtain ⟨h3, h4⟩ := fold_proj v s (repStep v costs most st x)
    rw [List.foldl_cons, h3, h4, h1, h2, List.flatMap_cons, List.all_cons, List.append_assoc, Bool.and_assoc]
    exact ⟨rfl, rfl⟩
theorem repW_proj : ∀ (V : List Vote) (st : List Rpr × List (List UInt8)), (V.foldl (repW s costs most) st).1.map rproj = st.1.map rproj ++ V.flatMap (fun v => s.flatMap (sendG costs v)) ∧ (V.foldl (repW s costs most) st).2 = st.2 ++ (V.filter fun v => !fineB s costs v).map (·.item)
  | [], st => by simp
  | v :: V, st => by
    obtain ⟨h1, h2⟩ := fold_proj (costs := costs) (most := most) v s (st.1, !decide (v.digest = []))
    obtain ⟨h3, h4⟩ := repW_proj V (repW s costs most st v)
    have e1 : (repW s costs most st v).1.map rproj = st.1.map rproj ++ s.flatMap (sendG costs v) := h1
    have e2 : (repW s costs most st v).2 = st.2 ++ if fineB s costs v = true then [] else [v.item] := by
      have : (repV v costs most st.1 s).2 = fineB s costs v := h2
      show (if (repV v costs most st.1 s).2 = true then st.2 else st.2 ++ [v.item]) = _
      rw [this]
      split <;> simp
    rw [List.foldl_cons, h3, h4, e1, e2, List.flatMap_cons, List.append_assoc, List.append_assoc]
    refine ⟨rfl, ?_⟩
    rw [List.filter_cons]
    cases fineB s costs v <;> simp
theorem repL_mem {V : List Vote} {r : Rpr} (h : r ∈ (repL s costs most V).1) : ∃ v ∈ V, ∃ x ∈ s, v.digest ≠ [] ∧ x.name ∉ v.right ∧ 0 ≤ (chL v.right x.name costs).2 ∧ r.item = v.item ∧ r.frm = (chL v.right x.name costs).1 ∧ r.to = x.name := by
  have hm : rproj r ∈ V.flatMap (fun v => s.flatMap (sendG costs v)) := by
    have := (repW_proj (costs := costs) (most := most) (s := s) V ([], [])).1
    rw [List.map_nil, List.nil_append] at this
    rw [← this]
    exact List.mem_map_of_mem h
  obtain ⟨v, hv, hm⟩ := List.mem_flatMap.1 hm
  obtain ⟨x, hx, hm⟩ := List.mem_flatMap.1 hm
  unfold sendG at hm
  split at hm
  · simp at hm
  · rename_i h1
    split at hm
    · rename_i h2
      simp only [List.mem_singleton, rproj, Prod.mk.injEq] at hm
      exact ⟨v, hv, x, hx, fun e => h1 (.inl e), fun e => h1 (.inr e), h2, hm⟩
    · simp at hm
theorem repL_has {V : List Vote} {v : Vote} (hv : v ∈ V) {x : Site} (hx : x ∈ s) (h1 : v.digest ≠ []) (h2 : x.name ∉ v.right) (h3 : 0 ≤ (chL v.right x.name costs).2) : ∃ r ∈ (repL s costs most V).1, r.item = v.item ∧ r.frm = (chL v.right x.name costs).1 ∧ r.to = x.name := by
  have hm : (v.item, (chL v.right x.name costs).1, x.name) ∈ (repL s costs most V).1.map rproj := by
    have := (repW_proj (costs := costs) (most := most) (s := s) V ([], [])).1
    rw [List.map_nil, List.nil_append] at this
    rw [show (repL s costs most V).1.map rproj = _ from this]
    refine List.mem_flatMap.2 ⟨v, hv, List.mem_flatMap.2 ⟨x, hx, ?_⟩⟩
    unfold sendG
    rw [if_neg (fun e => e.elim h1 h2), if_pos h3]
    simp
  obtain ⟨r, hr, e⟩ := List.mem_map.1 hm
  simp only [rproj, Prod.mk.injEq] at e
  exact ⟨r, hr, e⟩
theorem repL_apart {V : List Vote} (hV : (V.map (·.item)).Pairwise (fun a b => Op.bytesLess a b = true)) (hs : s.Pairwise (fun a b => Op.bytesLess a.name b.name = true)) : (repL s costs most V).1.Pairwise (fun a b => ¬ (a.item = b.item ∧ a.to = b.to)) := by
  have hp : ((repL s costs most V).1.map rproj).Pairwise (fun a b => ¬ (a.1 = b.1 ∧ a.2.2 = b.2.2)) := by
    have := (repW_proj (costs := costs) (most := most) (s := s) V ([], [])).1
    rw [List.map_nil, List.nil_append] at this
    rw [show (repL s costs most V).1.map rproj = _ from this, List.pairwise_flatMap]
    have hit : ∀ (v : Vote) (z : List UInt8 × List UInt8 × List UInt8), z ∈ s.flatMap (sendG costs v) → z.1 = v.item := fun v z hz => by
      obtain ⟨x, _, hz⟩ := List.mem_flatMap.1 hz
      unfold sendG at hz
      split at hz
      · simp at hz
      · split at hz
        · simp only [List.mem_singleton] at hz; rw [hz]
        · simp at hz
    refine ⟨fun v _ => ?_, (List.pairwise_map.1 hV).imp fun {a b} h x hx y hy e => ?_⟩
    · rw [List.pairwise_flatMap]
      have hto : ∀ (x : Site) (z : List UInt8 × List UInt8 × List UInt8), z ∈ sendG costs v x → z.2.2 = x.name := fun x z hz => by
        unfold sendG at hz
        split at hz
        · simp at hz
        · split at hz
          · simp only [List.mem_singleton] at hz; rw [hz]
          · simp at hz
      refine ⟨fun x _ => ?_, hs.imp fun {a b} h x hx y hy e => ?_⟩
      · unfold sendG
        split
        · simp
        · split <;> simp
      · exact bl_ne h (by rw [← hto a x hx, ← hto b y hy]; exact e.2)
    · exact bl_ne h (by rw [← hit a x hx, ← hit b y hy]; exact e.1)
  exact List.pairwise_map.1 hp
theorem repL_lost {V : List Vote} {v : Vote} (hv : v ∈ V) (h : v.item ∉ (repL s costs most V).2) : fineB s costs v = true := by
  have := (repW_proj (costs := costs) (most := most) (s := s) V ([], [])).2
  rw [List.nil_append] at this
  rw [show (repL s costs most V).2 = _ from this] at h
  cases hf : fineB s costs v with
  | true => rfl
  | false => exact absurd (List.mem_map.2 ⟨v, List.mem_filter.2 ⟨hv, by rw [hf]; rfl⟩, rfl⟩) h
end
/-- The rounds: a site sends at most so many in one. -/
inductive Built (m : Nat) : List Rpr → Prop
  | nil : Built m []
  | snoc {out : List Rpr} {r : Rpr} (h : Built m out) (hr : r.rnd = ((sentN r.frm out / m : Nat) : Int) + 1) : Built m (out ++ [r])
theorem built_step {v : Vote} {costs : List Cst} {m : Nat} {st : List Rpr × Bool} (x : Site) (h : Built m st.1) : Built m (repStep v costs (m : Int) st x).1 := by
  unfold repStep
  split
  · exact h
  · split
    · exact .snoc h (by rw [rprOf]; simp)
    · exact h
theorem built_fold {v : Vote} {costs : List Cst} {m : Nat} : ∀ (s : List Site) (st : List Rpr × Bool), Built m st.1 → Built m (s.foldl (repStep v costs (m : Int)) st).1
  | [], _, h => h
  | x :: s, st, h => built_fold s _ (built_step x h)
theorem built_rep {s : List Site} {costs : List Cst} {m : Nat} : ∀ (V : List Vote) (st : List Rpr × List (List UInt8)), Built m st.1 → Built m (V.foldl (repW s costs (m : Int)) st).1
  | [], _, h => h
  | v :: V, st, h => built_rep V _ (built_fold s _ h)
def cntR (out : List Rpr) (f : List UInt8) (n : Int) : Nat := (out.filter fun y => decide (y.frm = f ∧ y.rnd = n)).length
theorem cntR_snoc (out : List Rpr) (r : Rpr) (f : List UInt8) (n : Int) : cntR (out ++ [r]) f n = cntR out f n + if r.frm = f ∧ r.rnd = n then 1 else 0 := by
  rw [cntR, List.filter_append, List.length_append]
  by_cases h : r.frm = f ∧ r.rnd = n <;> simp [h, cntR]
theorem built_cnt {m : Nat} (hm : 0 < m) {out : List Rpr} (h : Built m out) (f : List UInt8) (q : Nat) : cntR out f ((q : Int) + 1) + min (sentN f out) (q * m) = min (sentN f out) (q * m + m) := by
  induction h with
  | nil => simp [cntR, sentN]
  | @snoc out r h hr ih =>
    rw [cntR_snoc, sentN_snoc]
    by_cases e : r.frm = f
    · rw [e] at hr
      have hq : (r.frm = f ∧ r.rnd = (q : Int) + 1) ↔ sentN f out / m = q := by
        rw [hr]; constructor
        · rintro ⟨_, h⟩; omega
        · intro h; exact ⟨e, by omega⟩
      rw [if_pos e]
      generalize sentN f out = n at *
      generalize hc : cntR out f ((q : Int) + 1) = c at *
      by_cases hd : n / m = q
      · rw [if_pos (hq.2 hd)]
        have h1 : q * m ≤ n := by rw [← hd]; exact Nat.div_mul_le_self n m
        have h2 : n < q * m + m := by rw [← hd]; exact Nat.lt_div_mul_add hm
        generalize q * m = a at *
        omega
      · rw [if_neg (fun k => hd (hq.1 k))]
        have h3 : n < q * m ∨ q * m + m ≤ n := by
          rcases Nat.lt_or_gt_of_ne hd with h4 | h4
          · exact .inl ((Nat.div_lt_iff_lt_mul hm).1 h4)
          · right
            have := (Nat.le_div_iff_mul_le hm).1 (show q + 1 ≤ n / m from h4)
            rw [Nat.add_mul, Nat.one_mul] at this
            exact this
        generalize q * m = a at *
        omega
    · rw [if_neg (fun k => e k.1), if_neg e]
      simpa using ih
theorem built_pos {m : Nat} {out : List Rpr} (h : Built m out) : ∀ r ∈ out, ∃ q : Nat, r.rnd = (q : Int) + 1 := by
  induction h with
  | nil => simp
  | @snoc out r h hr ih =>
    intro x hx
    rcases List.mem_append.1 hx with hx | hx
    · exact ih x hx
    · simp only [List.mem_singleton] at hx
      subst hx
      exact ⟨_, hr⟩
theorem built_le {m : Nat} (hm : 0 < m) {out : List Rpr} (h : Built m out) {r : Rpr} (hr : r ∈ out) : cntR out r.frm r.rnd ≤ m := by
  obtain ⟨q, hq⟩ := built_pos h r hr
  rw [hq]
  have := built_cnt hm h r.frm q
  generalize q * m = a at *
  omega
end Go.Proofs.YtdklocgaimejgaaDoor
