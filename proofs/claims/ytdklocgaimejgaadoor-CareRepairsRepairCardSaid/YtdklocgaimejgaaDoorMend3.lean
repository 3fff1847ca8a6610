/-
  Repairs repair: plain facts (3): after the repairs each item that is not lost is right at all sites.
-/
import Derived.Test.YtdklocgaimejgaaDoorMend2
namespace Go.Proofs.YtdklocgaimejgaaDoor
open Go.RowKit
set_option linter.unusedVariables false
set_option linter.unusedSimpArgs false

theorem firstF_cases (f : Nat → Int) : ∀ n, firstF f n = 0 ∨ ∃ j, j < n ∧ firstF f n = f j
  | 0 => .inl rfl
  | n + 1 => by
    rw [firstF]
    split
    · exact .inr ⟨n, by omega, rfl⟩
    · rcases firstF_cases f n with h | ⟨j, hj, h⟩
      · exact .inl h
      · exact .inr ⟨j, by omega, h⟩
section
variable {s : List Site} {l : List Held} {costs : List Cst} {mo : Nat}
theorem rep_zero (h : repFault s l costs (mo : Int) = 0) : copiesFault s l = 0 ∧ costsFault s costs = 0 ∧ 0 < mo ∧ (repL s costs (mo : Int) (votesOf s l)).1.length ≤ 3000 ∧ repOut s l costs (mo : Int) = repL s costs (mo : Int) (votesOf s l) := by
  have ho : repOut s l costs (mo : Int) = repL s costs (mo : Int) (votesOf s l) := by rw [repOut, if_pos h]
  unfold repFault at h
  split at h
  · rename_i h1; exact absurd h h1
  · rename_i h1
    split at h
    · rename_i h2; exact absurd h h2
    · rename_i h2
      split at h
      · omega
      · rename_i h3
        split at h
        · omega
        · rename_i h4
          have h3 := Bool.not_eq_false _ ▸ h3
          simp only [withinB, decide_eq_true_eq] at h3
          exact ⟨by simpa using h1, by simpa using h2, by omega, by omega, ho⟩
theorem rep_apart (hc : copiesFault s l = 0) : (repL s costs (mo : Int) (votesOf s l)).1.Pairwise (fun a b => ¬ (a.item = b.item ∧ a.to = b.to)) :=
  repL_apart (votes_items (hs_iff.1 (copies_hs hc))).1 (sites_sorted (copies_ok hc).1)
theorem mend_fault (h : repFault s l costs (mo : Int) = 0) : aftFault s l (repL s costs (mo : Int) (votesOf s l)).1 = 0 ∨ aftFault s l (repL s costs (mo : Int) (votesOf s l)).1 = 1 ∨ aftFault s l (repL s costs (mo : Int) (votesOf s l)).1 = 2 := by
  obtain ⟨hc, _, _, hl, _⟩ := rep_zero h
  have hap := rep_apart (costs := costs) (mo := mo) hc
  have hok := fun r hr => rep_ok (s := s) (l := l) (costs := costs) (mo := mo) hc (r := r) hr
  generalize (repL s costs (mo : Int) (votesOf s l)).1 = R at *
  have hf : ∀ j, j < R.length → aftF s l R j = 0 ∨ aftF s l R j = 1 := fun j hj => by
    obtain ⟨v, hv, x, hx, g1, g2, g3, g4, g5, g6, g7, g8⟩ := hok _ (List.getElem_mem hj)
    obtain ⟨hh, hhl, e1, e2, e3⟩ := ((vote_right (copies_hs hc) hv).1 _).1 g4
    obtain ⟨_, ⟨k, _, k2⟩, _⟩ := copy_ok hc hhl
    obtain ⟨k', _, k3⟩ := site_idx hx
    have n1 : ¬ siteIdx s R[j].frm < 0 := by rw [← e3, k2]; omega
    have n2 : ¬ siteIdx s R[j].to < 0 := by rw [g5, k3]; omega
    cases hw : withinB R[j].rnd 1 3000 with
    | false => exact .inr (aftF_4 hj g8 n1 n2 hw)
    | true =>
      refine .inl (aftF_7 hj g8 n1 n2 hw (by rw [g6]; exact g1) ?_)
      unfold twiceB
      rw [getD_at _ _ hj, List.any_eq_false]
      intro y hy
      obtain ⟨i, hi, rfl⟩ := List.mem_take_iff_getElem.1 hy
      have := List.pairwise_iff_getElem.1 hap i j (by omega) hj (by omega)
      simpa using this
  unfold aftFault
  rw [if_neg (by rw [hc]; decide), if_neg (by omega)]
  split
  · rename_i hne
    rcases firstF_cases (aftF s l R) R.length with e | ⟨j, hj, e⟩
    · exact absurd e hne
    · rw [e]
      rcases hf j hj with e2 | e2
      · exact .inl e2
      · exact .inr (.inl e2)
  · split
    · exact .inr (.inr rfl)
    · exact .inl rfl
theorem mend_all (h : repFault s l costs (mo : Int) = 0) (ha : aftFault s l (repL s costs (mo : Int) (votesOf s l)).1 = 0) :
    copiesFault s (aftL l (repL s costs (mo : Int) (votesOf s l)).1) = 0 ∧ (votesOf s (aftL l (repL s costs (mo : Int) (votesOf s l)).1)).map (·.item) = (votesOf s l).map (·.item) ∧
    ∀ v' ∈ votesOf s (aftL l (repL s costs (mo : Int) (votesOf s l)).1), ∀ v ∈ votesOf s l, v'.item = v.item → v.item ∉ (repL s costs (mo : Int) (votesOf s l)).2 → v'.digest = v.digest ∧ v'.wrong = [] ∧ v'.right.length = s.length := by
  obtain ⟨hc, _, _, hl, _⟩ := rep_zero h
  have hs := copies_hs hc
  have hap := rep_apart (costs := costs) (mo := mo) hc
  have hok := fun r hr => rep_ok (s := s) (l := l) (costs := costs) (mo := mo) hc (r := r) hr
  have hhas := fun (v : Vote) (hv : v ∈ votesOf s l) (x : Site) (hx : x ∈ s) => repL_has (s := s) (costs := costs) (most := (mo : Int)) hv hx
  have hlost := fun (v : Vote) (hv : v ∈ votesOf s l) => repL_lost (s := s) (costs := costs) (most := (mo : Int)) hv
  generalize repL s costs (mo : Int) (votesOf s l) = Q at *
  obtain ⟨R, lost⟩ := Q
  dsimp only at *
  have hmem : ∀ z, z ∈ aftL l R ↔ (∃ r ∈ R, z = rprHeld l r) ∨ (z ∈ l ∧ ∀ r ∈ R, ¬ (z.item = r.item ∧ z.site = r.to)) := fun z => fold_mem l R l z hs hap
  have hs' : HSorted (aftL l R) := by
    have := (aftL_facts l R hs R.length (Nat.le_refl _)).1
    rwa [List.take_length] at this
  have hlen : (aftL l R).length ≤ 3000 := by
    unfold aftFault at ha
    split at ha
    · rename_i h1; exact absurd ha h1
    · split at ha
      · omega
      · split at ha
        · rename_i h1; exact absurd ha h1
        · split at ha
          · omega
          · omega
  have hc' : copiesFault s (aftL l R) = 0 := copies_mk (copies_ok hc).1 hlen hs' fun z hz => by
    rcases (hmem z).1 hz with ⟨r, hr, rfl⟩ | ⟨hz, _⟩
    · obtain ⟨v, hv, x, hx, g1, g2, g3, g4, g5, g6, g7, g8⟩ := hok r hr
      exact ⟨g8, by show ∃ k : Nat, k < s.length ∧ siteIdx s r.to = k; rw [g5]; exact site_idx hx, by show isDig (heldL r.item r.frm l) = true; rw [g6]; exact g7⟩
    · exact copy_ok hc hz
  have hitems : (votesOf s (aftL l R)).map (·.item) = (votesOf s l).map (·.item) := by
    refine bl_ext (votes_items (hs_iff.1 hs')).1 (votes_items (hs_iff.1 hs)).1 fun it => ?_
    rw [(votes_items (hs_iff.1 hs')).2, (votes_items (hs_iff.1 hs)).2]
    constructor
    · rintro ⟨z, hz, rfl⟩
      rcases (hmem z).1 hz with ⟨r, hr, rfl⟩ | ⟨hz, _⟩
      · obtain ⟨v, hv, x, hx, g1, g2, g3, g4, g5, g6, g7, g8⟩ := hok r hr
        obtain ⟨k, hk, e⟩ := (vote_right hs hv).2.2
        exact ⟨k, hk, by rw [e, ← g3]; rfl⟩
      · exact ⟨z, hz, rfl⟩
    · rintro ⟨z, hz, rfl⟩
      by_cases hex : ∃ r ∈ R, z.item = r.item ∧ z.site = r.to
      · obtain ⟨r, hr, e1, e2⟩ := hex
        exact ⟨rprHeld l r, (hmem _).2 (.inl ⟨r, hr, rfl⟩), e1.symm⟩
      · exact ⟨z, (hmem z).2 (.inr ⟨hz, fun r hr e => hex ⟨r, hr, e⟩⟩), rfl⟩
  refine ⟨hc', hitems, fun v' hv' v hv hi hnl => ?_⟩
  have hfine := hlost v hv hnl
  unfold fineB at hfine
  rw [Bool.and_eq_true, Bool.not_eq_true', decide_eq_false_iff_not, List.all_eq_true] at hfine
  obtain ⟨hd0, hall⟩ := hfine
  obtain ⟨gr, _, _⟩ := vote_right hs hv
  obtain ⟨_, hv2, z0, hz0, hz0i⟩ := vote_right hs' hv'
  rw [hi] at hv2 hz0i
  -- each copy of the item has the right digest
  have hdig : ∀ z ∈ (aftL l R).filter (ofIt v.item), z.digest = v.digest := fun z hz => by
    rw [List.mem_filter] at hz
    have hzi : z.item = v.item := of_decide_eq_true hz.2
    rcases (hmem z).1 hz.1 with ⟨r, hr, rfl⟩ | ⟨hzl, hno⟩
    · obtain ⟨u, hu, x, hx, g1, g2, g3, g4, g5, g6, g7, g8⟩ := hok r hr
      have e : u = v := vote_same hs hu hv (by rw [← g3]; exact hzi)
      show heldL r.item r.frm l = _
      rw [g6, e]
    · by_cases hzd : z.digest = v.digest
      · exact hzd
      · exfalso
        obtain ⟨_, ⟨k, hk, hk2⟩, _⟩ := copy_ok hc hzl
        obtain ⟨x, hx, hxn⟩ := idx_site hk hk2
        have hnr : x.name ∉ v.right := fun e => by
          obtain ⟨y, hy, e1, e2, e3⟩ := (gr _).1 e
          have := hs_ne hs hy hzl ⟨by rw [e1, hzi], by rw [e3, hxn]⟩
          rw [this] at e2
          exact hzd e2
        have hch := hall x hx
        unfold okB at hch
        rw [if_neg (fun e => e.elim hd0 hnr), decide_eq_true_iff] at hch
        obtain ⟨r, hr, e1, _, e3⟩ := hhas v hv x hx hd0 hnr hch
        exact hno r hr ⟨by rw [hzi, e1], by rw [e3, hxn]⟩
  have hsub : ((aftL l R).filter (ofIt v.item)).Pairwise HLt := (hs_iff.1 hs').sublist List.filter_sublist
  have hsites : ((aftL l R).filter (ofIt v.item)).map (·.site) = s.map (·.name) := by
    refine bl_ext ?_ ?_ fun t => ?_
    · rw [List.pairwise_map]
      refine hsub.imp_of_mem fun {a b} ha hb h => ?_
      rw [List.mem_filter] at ha hb
      rcases h with h | ⟨_, h⟩
      · rw [of_decide_eq_true ha.2, of_decide_eq_true hb.2, bl_irr] at h; cases h
      · exact h
    · rw [List.pairwise_map]
      exact sites_sorted (copies_ok hc).1
    · rw [List.mem_map, List.mem_map]
      constructor
      · rintro ⟨z, hz, rfl⟩
        obtain ⟨_, ⟨k, hk, hk2⟩, _⟩ := copy_ok hc' (List.mem_filter.1 hz).1
        exact idx_site hk hk2
      · rintro ⟨x, hx, rfl⟩
        by_cases hxr : x.name ∈ v.right
        · obtain ⟨y, hy, e1, e2, e3⟩ := (gr _).1 hxr
          by_cases hex : ∃ r ∈ R, y.item = r.item ∧ y.site = r.to
          · obtain ⟨r, hr, q1, q2⟩ := hex
            exact ⟨rprHeld l r, List.mem_filter.2 ⟨(hmem _).2 (.inl ⟨r, hr, rfl⟩), decide_eq_true (by show r.item = _; rw [← q1, e1])⟩, by show r.to = _; rw [← q2, e3]⟩
          · exact ⟨y, List.mem_filter.2 ⟨(hmem _).2 (.inr ⟨hy, fun r hr e => hex ⟨r, hr, e⟩⟩), decide_eq_true e1⟩, e3⟩
        · have hch := hall x hx
          unfold okB at hch
          rw [if_neg (fun e => e.elim hd0 hxr), decide_eq_true_iff] at hch
          obtain ⟨r, hr, e1, _, e3⟩ := hhas v hv x hx hd0 hxr hch
          exact ⟨rprHeld l r, List.mem_filter.2 ⟨(hmem _).2 (.inl ⟨r, hr, rfl⟩), decide_eq_true e1⟩, e3⟩
  have hpl : ((aftL l R).filter (ofIt v.item)).length = s.length := by
    have := congrArg List.length hsites
    rwa [List.length_map, List.length_map] at this
  have hp0 : (aftL l R).filter (ofIt v.item) ≠ [] := List.ne_nil_of_mem (List.mem_filter.2 ⟨hz0, decide_eq_true hz0i⟩)
  have hok' := copies_VoteOk hc' (List.ne_nil_of_mem hz0)
  have hw := sumW_pos (s := s) hp0 (fun x hx => wtOf_range hok' (List.mem_filter.1 hx).1)
  obtain ⟨q1, q2, q3⟩ := vote_all hp0 hw hdig
  rw [← hv2] at q1 q2 q3
  exact ⟨q1, q3, q2.trans hpl⟩
end
end Go.Proofs.YtdklocgaimejgaaDoor
