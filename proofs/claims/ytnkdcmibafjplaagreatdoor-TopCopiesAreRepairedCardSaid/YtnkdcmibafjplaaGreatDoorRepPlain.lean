/-
  Costs and repairs: plain facts.
-/
import Derived.Test.YtnkdcmibafjplaaGreatDoorVotes
import Derived.Test.YtnkdcmibafjplaaGreatDoorCheap
import Derived.Test.YtnkdcmibafjplaaGreatDoorWithin
namespace Go.Proofs.YtnkdcmibafjplaaGreatDoor
open Go.RowKit
set_option linter.unusedVariables false
set_option linter.unusedSimpArgs false

/-- A cost does not come behind the one before it. -/
def costBad (y x : Cst) : Bool := slt x.frm y.frm || (x.frm == y.frm && sle x.to y.to)
theorem costBad_cmp (y x : Cst) : decide (or2 (scmp y.frm x.frm) (scmp y.to x.to) ≥ 0) = costBad y x := heldBad_cmp ⟨y.frm, y.to, []⟩ ⟨x.frm, x.to, []⟩
def costF (s : List Site) (l : List Cst) (i : Nat) : Int :=
  if siteIdx s (l.getD i default).frm < 0 then 5 else if siteIdx s (l.getD i default).to < 0 then 5 else if (l.getD i default).frm = (l.getD i default).to then 12
  else if withinB (l.getD i default).cost 0 1000000 = false then 1 else if 0 < i ∧ costBad (l.getD (i - 1) default) (l.getD i default) = true then 8 else 0
def costsFault (s : List Site) (l : List Cst) : Int := if 2500 < l.length then 2 else firstF (costF s l) l.length
section
variable {s : List Site} {l : List Cst} {i : Nat}
theorem costF_1 (hi : i < l.length) (h : siteIdx s l[i].frm < 0) : costF s l i = 5 := by rw [costF, getD_at _ _ hi, if_pos h]
theorem costF_2 (hi : i < l.length) (h : ¬ siteIdx s l[i].frm < 0) (h2 : siteIdx s l[i].to < 0) : costF s l i = 5 := by rw [costF, getD_at _ _ hi, if_neg h, if_pos h2]
theorem costF_3 (hi : i < l.length) (h : ¬ siteIdx s l[i].frm < 0) (h2 : ¬ siteIdx s l[i].to < 0) (h3 : l[i].frm = l[i].to) : costF s l i = 12 := by
  rw [costF, getD_at _ _ hi, if_neg h, if_neg h2, if_pos h3]
theorem costF_4 (hi : i < l.length) (h : ¬ siteIdx s l[i].frm < 0) (h2 : ¬ siteIdx s l[i].to < 0) (h3 : ¬ l[i].frm = l[i].to) (h4 : withinB l[i].cost 0 1000000 = false) : costF s l i = 1 := by
  rw [costF, getD_at _ _ hi, if_neg h, if_neg h2, if_neg h3, if_pos h4]
theorem costF_5 (hi : i < l.length) (h : ¬ siteIdx s l[i].frm < 0) (h2 : ¬ siteIdx s l[i].to < 0) (h3 : ¬ l[i].frm = l[i].to) (h4 : withinB l[i].cost 0 1000000 = true) (h5 : 0 < i) (h6 : costBad (l[i - 1]'(by omega)) l[i] = true) : costF s l i = 8 := by
  rw [costF, getD_at _ _ hi, getD_at _ _ (show i - 1 < l.length by omega), if_neg h, if_neg h2, if_neg h3, if_neg (by rw [h4]; decide), if_pos ⟨h5, h6⟩]
theorem costF_6 (hi : i < l.length) (h : ¬ siteIdx s l[i].frm < 0) (h2 : ¬ siteIdx s l[i].to < 0) (h3 : ¬ l[i].frm = l[i].to) (h4 : withinB l[i].cost 0 1000000 = true) (h5 : ¬ (0 < i ∧ costBad (l[i - 1]'(by omega)) l[i] = true)) : costF s l i = 0 := by
  rw [costF, getD_at _ _ hi, getD_at _ _ (show i - 1 < l.length by omega), if_neg h, if_neg h2, if_neg h3, if_neg (by rw [h4]; decide), if_neg h5]
theorem costsFault_at (h3 : ¬ 2500 < l.length) (hi : i < l.length) (hS : ∀ j, j < i → costF s l j = 0) {f : Int} (hf : costF s l i = f) (hn : f ≠ 0) : costsFault s l = f := by
  rw [costsFault, if_neg h3, firstF_at hi hS (by rw [hf]; exact hn), hf]
theorem costsFault_ok (h3 : ¬ 2500 < l.length) (hS : ∀ j, j < l.length → costF s l j = 0) : costsFault s l = 0 := by
  rw [costsFault, if_neg h3, firstF_ok hS]
end
theorem isNm_ne {t : List UInt8} (h : isNm t = true) : t ≠ [] := by
  rintro rfl
  have := nm_len h
  simp at this
theorem sites_nm {s : List Site} (h : sitesFault s = 0) : ∀ x ∈ s, isNm x.name = true := by
  unfold sitesFault at h
  split at h
  · omega
  · split at h
    · omega
    · intro x hx
      obtain ⟨j, hj, rfl⟩ := List.getElem_of_mem hx
      have hf := firstF_all h j hj
      unfold siteF at hf
      rw [getD_at _ _ hj] at hf
      split at hf
      · omega
      · rename_i h1; simpa using h1
theorem siteIdx_nm {s : List Site} (h : sitesFault s = 0) {t : List UInt8} (ht : ¬ siteIdx s t < 0) : t ≠ [] ∧ t.length ≤ 40 ∧ ∃ k : Nat, k < s.length ∧ siteIdx s t = k := by
  rcases siteIdx_range s t with ⟨e, _⟩ | ⟨k, hk, e, e2⟩
  · rw [e] at ht; omega
  · have := sites_nm h _ (List.getElem_mem hk)
    rw [e2] at this
    exact ⟨isNm_ne this, (nm_len this).2, k, hk, e⟩
theorem costs_ok {s : List Site} {l : List Cst} (h0 : sitesFault s = 0) (h : costsFault s l = 0) : l.length ≤ 2500 ∧ ∀ x ∈ l, (x.frm ≠ [] ∧ 0 ≤ x.cost) ∧ x.frm.length ≤ 40 ∧ ∃ k : Nat, k < s.length ∧ siteIdx s x.frm = k := by
  unfold costsFault at h
  split at h
  · omega
  · refine ⟨by omega, fun x hx => ?_⟩
    obtain ⟨j, hj, rfl⟩ := List.getElem_of_mem hx
    have hf := firstF_all h j hj
    unfold costF at hf
    rw [getD_at _ _ hj] at hf
    split at hf
    · omega
    · rename_i g1
      obtain ⟨h1, h2, h3⟩ := siteIdx_nm h0 g1
      split at hf
      · omega
      · split at hf
        · omega
        · split at hf
          · omega
          · rename_i hw
            have hw := Bool.not_eq_false _ ▸ hw
            simp only [withinB, decide_eq_true_eq] at hw
            exact ⟨⟨h1, hw.1⟩, h2, h3⟩
/-- The cheapest: none, or one of the costs. -/
theorem chL_cases (right : List (List UInt8)) (to : List UInt8) (l : List Cst) : (chL right to l = ([], -1)) ∨ ∃ x ∈ l, chL right to l = (x.frm, x.cost) ∧ x.frm ∈ right ∧ x.to = to := by
  have : ∀ k, k ≤ l.length → (chL right to (l.take k) = ([], -1)) ∨ ∃ x ∈ l, chL right to (l.take k) = (x.frm, x.cost) ∧ x.frm ∈ right ∧ x.to = to := by
    intro k
    induction k with
    | zero => intro _; exact .inl rfl
    | succ k ih =>
      intro hk
      have hlt : k < l.length := by omega
      rw [List.take_succ_eq_append_getElem hlt, chL_snoc, chStep]
      split
      · rename_i hc
        simp only [chOk, Bool.and_eq_true, decide_eq_true_eq] at hc
        exact .inr ⟨_, List.getElem_mem hlt, rfl, hc.2.2, hc.1⟩
      · exact ih (by omega)
  have := this l.length (Nat.le_refl _)
  rwa [List.take_length] at this
theorem chL_none {right : List (List UInt8)} {to : List UInt8} {l : List Cst} (hl : ∀ x ∈ l, x.frm ≠ [] ∧ 0 ≤ x.cost) : ((chL right to l).1 = [] ∧ ¬ 0 ≤ (chL right to l).2) ∨ ((chL right to l).1 ≠ [] ∧ 0 ≤ (chL right to l).2 ∧ ∃ x ∈ l, (chL right to l).1 = x.frm) := by
  rcases chL_cases right to l with h | ⟨x, hx, h, _⟩
  · rw [h]; exact .inl ⟨rfl, by decide⟩
  · rw [h]; exact .inr ⟨(hl x hx).1, (hl x hx).2, x, hx, rfl⟩
/-- How many repairs are sent from a site. -/
def sentN (f : List UInt8) (out : List Rpr) : Nat := (out.filter fun r => decide (r.frm = f)).length
theorem sentN_nil (f : List UInt8) : sentN f [] = 0 := rfl
theorem sentN_snoc (f : List UInt8) (out : List Rpr) (r : Rpr) : sentN f (out ++ [r]) = sentN f out + if r.frm = f then 1 else 0 := by
  rw [sentN, List.filter_append, List.length_append]
  by_cases h : r.frm = f <;> simp [h, sentN]
theorem sentN_le (f : List UInt8) (out : List Rpr) : sentN f out ≤ out.length := List.length_filter_le _ _
def rprOf (v : Vote) (costs : List Cst) (most : Int) (out : List Rpr) (x : Site) : Rpr := ⟨v.item, (chL v.right x.name costs).1, x.name, ((sentN (chL v.right x.name costs).1 out / most.toNat : Nat) : Int) + 1⟩
def repStep (v : Vote) (costs : List Cst) (most : Int) (st : List Rpr × Bool) (x : Site) : List Rpr × Bool :=
  if v.digest = [] ∨ x.name ∈ v.right then st else if 0 ≤ (chL v.right x.name costs).2 then (st.1 ++ [rprOf v costs most st.1 x], st.2) else (st.1, false)
def repV (v : Vote) (costs : List Cst) (most : Int) (out : List Rpr) (s : List Site) : List Rpr × Bool := s.foldl (repStep v costs most) (out, !decide (v.digest = []))
def repW (s : List Site) (costs : List Cst) (most : Int) (st : List Rpr × List (List UInt8)) (v : Vote) : List Rpr × List (List UInt8) :=
  ((repV v costs most st.1 s).1, if (repV v costs most st.1 s).2 = true then st.2 else st.2 ++ [v.item])
def repL (s : List Site) (costs : List Cst) (most : Int) (V : List Vote) : List Rpr × List (List UInt8) := V.foldl (repW s costs most) ([], [])
section
variable {v : Vote} {costs : List Cst} {most : Int} {st : List Rpr × Bool} {x : Site} {s : List Site}
theorem repStep_skip (h : v.digest = [] ∨ x.name ∈ v.right) : repStep v costs most st x = st := by rw [repStep, if_pos h]
theorem repStep_no (h : ¬ v.digest = []) (h1 : x.name ∉ v.right) (h2 : ¬ 0 ≤ (chL v.right x.name costs).2) : repStep v costs most st x = (st.1, false) := by
  rw [repStep, if_neg (fun e => e.elim h h1), if_neg h2]
theorem repStep_yes (h : ¬ v.digest = []) (h1 : x.name ∉ v.right) (h2 : 0 ≤ (chL v.right x.name costs).2) : repStep v costs most st x = (st.1 ++ [rprOf v costs most st.1 x], st.2) := by
  rw [repStep, if_neg (fun e => e.elim h h1), if_pos h2]
theorem repStep_len (v : Vote) (costs : List Cst) (most : Int) (st : List Rpr × Bool) (x : Site) : (repStep v costs most st x).1.length ≤ st.1.length + 1 := by
  unfold repStep
  split
  · omega
  · split <;> simp
theorem repV_take (v : Vote) (costs : List Cst) (most : Int) (out : List Rpr) (s : List Site) {k : Nat} (hk : k < s.length) : repV v costs most out (s.take (k + 1)) = repStep v costs most (repV v costs most out (s.take k)) s[k] := by
  rw [repV, List.take_succ_eq_append_getElem hk, List.foldl_append]; rfl
theorem repV_len (v : Vote) (costs : List Cst) (most : Int) (out : List Rpr) (s : List Site) : ∀ k, k ≤ s.length → (repV v costs most out (s.take k)).1.length ≤ out.length + k
  | 0, _ => by simp [repV]
  | k + 1, h => by
    rw [repV_take v costs most out s (by omega)]
    have := repStep_len v costs most (repV v costs most out (s.take k)) s[k]
    have := repV_len v costs most out s k (by omega)
    omega
theorem repL_take (s : List Site) (costs : List Cst) (most : Int) (V : List Vote) {k : Nat} (hk : k < V.length) : repL s costs most (V.take (k + 1)) = repW s costs most (repL s costs most (V.take k)) V[k] := by
  rw [repL, List.take_succ_eq_append_getElem hk, List.foldl_append]; rfl
theorem repL_len (s : List Site) (costs : List Cst) (most : Int) (V : List Vote) : ∀ k, k ≤ V.length → (repL s costs most (V.take k)).1.length ≤ k * s.length ∧ (repL s costs most (V.take k)).2.length ≤ k
  | 0, _ => by simp [repL]
  | k + 1, h => by
    rw [repL_take s costs most V (by omega)]
    have h1 := repV_len V[k] costs most (repL s costs most (V.take k)).1 s s.length (Nat.le_refl _)
    have h2 := repL_len s costs most V k (by omega)
    rw [List.take_length] at h1
    refine ⟨?_, ?_⟩
    · rw [Nat.add_mul]
      show (repV V[k] costs most (repL s costs most (V.take k)).1 s).1.length ≤ _
      omega
    · show (if (repV V[k] costs most (repL s costs most (V.take k)).1 s).2 = true then (repL s costs most (V.take k)).2 else (repL s costs most (V.take k)).2 ++ [V[k].item]).length ≤ _
      split
      · omega
      · simp; omega
end
def RSz (r : Rpr) : Prop := r.item.length ≤ maxLen ∧ r.frm.length ≤ maxLen ∧ r.to.length ≤ maxLen ∧ 1 ≤ r.rnd ∧ r.rnd ≤ 200001
section
variable {v : Vote} {costs : List Cst} {most : Int} {s : List Site}
theorem rprOf_sz {out : List Rpr} {x : Site} (hv : v.item.length ≤ maxLen) (hc : ∀ c ∈ costs, c.frm.length ≤ maxLen) (hx : x.name.length ≤ maxLen) (hm : 1 ≤ most) (hl : out.length ≤ 200000) : RSz (rprOf v costs most out x) := by
  refine ⟨hv, ?_, hx, ?_, ?_⟩
  · show (chL v.right x.name costs).1.length ≤ _
    rcases chL_cases v.right x.name costs with h | ⟨c, hcm, h, _⟩
    · rw [h]; exact Nat.zero_le _
    · rw [h]; exact hc c hcm
  · show 1 ≤ ((sentN (chL v.right x.name costs).1 out / most.toNat : Nat) : Int) + 1
    generalize sentN (chL v.right x.name costs).1 out / most.toNat = q
    omega
  · show ((sentN (chL v.right x.name costs).1 out / most.toNat : Nat) : Int) + 1 ≤ _
    have h1 := sentN_le (chL v.right x.name costs).1 out
    have h2 := Nat.div_le_self (sentN (chL v.right x.name costs).1 out) most.toNat
    generalize sentN (chL v.right x.name costs).1 out / most.toNat = q at *
    omega
theorem repV_sz {out : List Rpr} (ho : ∀ r ∈ out, RSz r) (hv : v.item.length ≤ maxLen) (hc : ∀ c ∈ costs, c.frm.length ≤ maxLen) (hs : ∀ x ∈ s, x.name.length ≤ maxLen) (hm : 1 ≤ most) (hl : out.length + s.length ≤ 200000) : ∀ k, k ≤ s.length → ∀ r ∈ (repV v costs most out (s.take k)).1, RSz r
  | 0, _ => by simpa [repV] using ho
  | k + 1, h => by
    rw [repV_take v costs most out s (by omega)]
    have ih := repV_sz ho hv hc hs hm hl k (by omega)
    have hlen := repV_len v costs most out s k (by omega)
    unfold repStep
    split
    · exact ih
    · split
      · intro r hr
        rcases List.mem_append.1 hr with hr | hr
        · exact ih r hr
        · simp only [List.mem_singleton] at hr
          subst hr
          exact rprOf_sz hv hc (hs _ (List.getElem_mem _)) hm (by omega)
      · exact ih
theorem repL_sz {V : List Vote} (hV : ∀ v ∈ V, v.item.length ≤ maxLen) (hc : ∀ c ∈ costs, c.frm.length ≤ maxLen) (hs : ∀ x ∈ s, x.name.length ≤ maxLen) (hm : 1 ≤ most) (h1 : V.length ≤ 3000) (h2 : s.length ≤ 50) : ∀ k, k ≤ V.length → (∀ r ∈ (repL s costs most (V.take k)).1, RSz r) ∧ ∀ t ∈ (repL s costs most (V.take k)).2, t.length ≤ maxLen
  | 0, _ => by simp [repL]
  | k + 1, h => by
    rw [repL_take s costs most V (by omega)]
    obtain ⟨i1, i2⟩ := repL_sz hV hc hs hm h1 h2 k (by omega)
    have hlen := (repL_len s costs most V k (by omega)).1
    have hk3 : k * s.length ≤ 3000 * 50 := Nat.mul_le_mul (by omega) h2
    refine ⟨?_, ?_⟩
    · have := repV_sz (v := V[k]) i1 (hV _ (List.getElem_mem _)) hc hs hm (by omega) s.length (Nat.le_refl _)
      rw [List.take_length] at this
      exact this
    · intro t ht
      change t ∈ (if (repV V[k] costs most (repL s costs most (V.take k)).1 s).2 = true then (repL s costs most (V.take k)).2 else (repL s costs most (V.take k)).2 ++ [V[k].item]) at ht
      split at ht
      · exact i2 t ht
      · rcases List.mem_append.1 ht with ht | ht
        · exact i2 t ht
        · simp only [List.mem_singleton] at ht
          subst ht
          exact hV _ (List.getElem_mem _)
end
def repFault (s : List Site) (l : List Held) (costs : List Cst) (most : Int) : Int :=
  if copiesFault s l ≠ 0 then copiesFault s l else if costsFault s costs ≠ 0 then costsFault s costs else if withinB most 1 3000 = false then 1 else if 3000 < (repL s costs most (votesOf s l)).1.length then 2 else 0
def repOut (s : List Site) (l : List Held) (costs : List Cst) (most : Int) : List Rpr × List (List UInt8) := if repFault s l costs most = 0 then repL s costs most (votesOf s l) else ([], [])
def RepPost (s : List Site) (l : List Held) (costs : List Cst) (most : Int) (w : World) (e : Ending) (w' : World) : Prop :=
  ∃ v1 v2, e = .returned (.tuple #[v1, v2, .int .i64 (repFault s l costs most)]) ∧ (Rp.sl rprRp).ok w' (· < w'.heap.size) [v1] (repOut s l costs most).1 ∧ (Rp.sl Rp.str).ok w' (· < w'.heap.size) [v2] ((repOut s l costs most).2.map bstr) ∧ Below w.heap.size w w'
theorem rpr_mk {w : World} {S : Nat → Prop} {r : Rpr} (h : RSz r) : rprRp.ok w S (rprCells r) r := by
  obtain ⟨h1, h2, h3, h4, h5⟩ := h
  exact ⟨[_], [_, _, _], rfl, ⟨rfl, h1⟩, ⟨[_], [_, _], rfl, ⟨rfl, h2⟩, ⟨[_], [_], rfl, ⟨rfl, h3⟩, ⟨rfl, WalkArith.wf_i64 (show -9223372036854775808 ≤ r.rnd ∧ r.rnd ≤ 9223372036854775807 by omega)⟩⟩⟩⟩
end Go.Proofs.YtnkdcmibafjplaaGreatDoor
