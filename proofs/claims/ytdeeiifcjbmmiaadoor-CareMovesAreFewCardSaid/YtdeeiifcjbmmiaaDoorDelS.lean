/-
  slices.Delete of one site of an owned row; Below and WithoutSite of the reference.
-/
import Derived.Test.YtdeeiifcjbmmiaaDoorSortSite
import Derived.Test.YtdeeiifcjbmmiaaDoorInsP
import Derived.Deep.RegionLaw
import Derived.Deep.RegionHeld
namespace Go.Proofs.YtdeeiifcjbmmiaaDoor
open Go.RowKit Go.Lib
set_option linter.unusedVariables false
set_option linter.unusedSimpArgs false

theorem run_clear_rowE {P : Program} (w : World) (t e : TypeId) (z : Value) (ht : P.underlying t = some (.slice e)) (hv : ∀ w, (zeroValue e).run P w = .ok z w) (h1 : ∀ u ∈ z.cells.toList, u.oneCell' = true) (g o n c : Nat) (cur : List Value) (t' : TypeId)
    (hg : Blk w g t' cur) (hn : 0 < n) (hfit : o + n * z.cells.size ≤ cur.length) : ∀ ty, (Builtin.clear_ #[t] ty #[.slice (some ⟨g, o, none⟩) n c]).run P w = .ok (.tuple #[]) (w.setRow g (cur.take o ++ (Builtin.zeroCells z.cells n).toList ++ cur.drop (o + (Builtin.zeroCells z.cells n).toList.length)).toArray) := by
  intro ty
  have hl : (Builtin.zeroCells z.cells n).toList.length = n * z.cells.size := by simp [Builtin.zeroCells]
  have hst := run_storeCells_at P g o t' (Builtin.zeroCells z.cells n).toList 0 cur.toArray w hg (by simp only [Nat.add_zero, List.size_toArray]; omega) (fun u hu => by
    simp only [Builtin.zeroCells, Array.toList_map, List.mem_map] at hu
    obtain ⟨i, hi, rfl⟩ := hu
    have hi' : i < n * z.cells.size := by simpa using hi
    have hs : 0 < z.cells.size := by
      rcases Nat.eq_zero_or_pos z.cells.size with h | h
      · rw [h, Nat.mul_zero] at hi'; omega
      · exact h
    have hm : i % z.cells.size < z.cells.size := Nat.mod_lt _ hs
    rw [getElem!_pos z.cells _ hm]
    exact h1 _ (by simp))
  obtain ⟨m, rfl⟩ : ∃ m, n = m + 1 := ⟨n - 1, by omega⟩
  simp [Builtin.clear_, run_underlying ht, hv, hst]
theorem wpList_clear_runK {P : Program} (w : World) {ops : Array Oper} {rest : List Oper} {o : Oper} {a : Act} {Q : Exit → Act → World → Prop} (hgd : o.guard = none) (s : Operand) (t : TypeId)
    (ho : o.op = .call { callee := .builtin .clear, args := #[s], argTypes := #[t] }) (v : Value) (hs : a.eval s = v) {v' : Value} {w' : World}
    (hr : (Builtin.clear_ #[t] o.type #[v]).run P w = .ok v' w') (h : wpList P ops Q rest (a.put o.dst v') w') : wpList P ops Q (o :: rest) a w := by
  refine wpList_plain hgd fun K hK => ?_
  unfold Oper.wp execOp
  simp only [ho, resolve, invoke, builtin, Sem.run_bind, Sem.run_pure, Result.andThen_ok, List.map_toArray, List.map_cons, List.map_nil, hs, hr]
  exact hK _ _ h
theorem run_append_rowK {P : Program} (w : World) (t ty e : TypeId) (i : TypeInfo) (size : Nat) (ht : P.underlying t = some (.slice e)) (hi : P.info? e = some i) (hsz : i.size = size) (g o sLen sCap : Nat) (a : Addr) (m c : Nat) (news : List Value) (hl : news.length = m * size)
    (hnews : ∀ j u, news[j]? = some u → w.cell? (a.add j) = some u) (h1 : ∀ u ∈ news, u.oneCell' = true) (hroom : sLen + m ≤ sCap) (cur : Array Value) (t' : TypeId) (hg : w.heap[g]? = some (.cells cur t' (0, 0))) (hfit : o + sLen * size + news.length ≤ cur.size) :
    (Builtin.append_ #[t, t] ty #[.slice (some ⟨g, o, none⟩) sLen sCap, .slice (some a) m c]).run P w = .ok (.slice (some ⟨g, o, none⟩) (sLen + m) sCap) (w.setRow g (cur.toList.take (o + sLen * size) ++ news ++ cur.toList.drop (o + sLen * size + news.length)).toArray) := by
  subst hsz
  have hfc := run_firstCells_some (P := P) w i.size m a m c news hl hnews
  have hst := run_storeCells_at P g (o + sLen * i.size) t' news 0 cur w hg (by simpa using hfit) h1
  simp only [Nat.add_zero] at hst
  simp [Builtin.append_, run_underlying ht, sizeOf, typeInfo, hi, Builtin.lenOf, hroom, hfc, Addr.add_lit, hst]
theorem step_append_runK {P : Program} {ops : Array Oper} {o : Oper} {a : Act} {w : World} {K : Act → World → Prop} {Q : Exit → Act → World → Prop} {E : Prop}
    (hg : o.guard = none) (d x : Operand) (dT sT : TypeId) (hop : o.op = Op.call { callee := Callee.builtin Builtin.append, args := #[d, x], argTypes := #[dT, sT] })
    (v u : Value) (hd : a.eval d = v) (hx : a.eval x = u) {v' : Value} {w' : World} (hr : (Builtin.append_ #[dT, sT] o.type #[v, u]).run P w = .ok v' w') (hK : K (a.put o.dst v') w') :
    if Region.wanted o (yielded ops a.tmps) = true then Oper.wp P o a w K Q else E := by
  have hw : Region.wanted o (yielded ops a.tmps) = true := by simp [Region.wanted, hg]
  rw [if_pos hw]
  unfold Oper.wp
  simp [execOp, hop, resolve, invoke, builtin, hd, hx, hr, Result.andThen]
  exact hK
theorem flat_takeD {α β : Type} {f : α → List β} {sz : Nat} (hf : ∀ a, (f a).length = sz) (l : List α) (a : Nat) (h : a ≤ l.length) : (l.flatMap f).take (a * sz) = (l.take a).flatMap f := by
  conv => lhs; rw [← List.take_append_drop a l, List.flatMap_append]
  exact List.take_left' (by rw [flat_len hf, List.length_take, Nat.min_eq_left h])
theorem flat_dropD {α β : Type} {f : α → List β} {sz : Nat} (hf : ∀ a, (f a).length = sz) (l : List α) (a : Nat) (h : a ≤ l.length) : (l.flatMap f).drop (a * sz) = (l.drop a).flatMap f := by
  conv => lhs; rw [← List.take_append_drop a l, List.flatMap_append]
  exact List.drop_left' (by rw [flat_len hf, List.length_take, Nat.min_eq_left h])
def DelPostS (B : Nat) (v : Value) (L : List Site) (i : Nat) (w : World) (e : Ending) (w' : World) : Prop :=
  ∃ v', e = .returned v' ∧ w'.ownsRow B 39 3 v' (L.eraseIdx i).length ((L.eraseIdx i).flatMap siteCells) ∧ w.grownBy w' v.ownBlock
set_option maxRecDepth 100000 in
set_option maxHeartbeats 4000000 in
theorem delSite_any (v : Value) (L : List Site) (i B : Nat) (w : World) (hO : w.ownsRow B 39 3 v L.length (L.flatMap siteCells)) (hi : i < L.length) (hl : L.length ≤ 100) :
    Calls Tryd.prog 14 #[v, .int .i64 i, .int .i64 ((i : Int) + 1)] w (DelPostS B v L i w) := by
  have hxl : (L.flatMap siteCells).length = L.length * 3 := flat_len (f := siteCells) (sz := 3) (fun _ => rfl) L
  rcases hO.2 with ⟨_, h0⟩ | ⟨g, cap, cur, rfl, hBg, hg, hnc, hcm, hcs, htk⟩
  · omega
  obtain ⟨ti, hi0, hz, hi1, hi2⟩ := info_parts siteC_info
  have hnc' : L.length ≤ cap := hnc
  unfold maxLen at hcm
  obtain ⟨news, hnews⟩ : ∃ news, news = (L.flatMap siteCells).drop ((i + 1) * 3) := ⟨_, rfl⟩
  have hnl : news.length = (L.length - (i + 1)) * 3 := by rw [hnews, List.length_drop, hxl]; omega
  obtain ⟨c1, hc1⟩ : ∃ c1, c1 = cur.toList.take (i * 3) ++ news ++ cur.toList.drop (i * 3 + news.length) := ⟨_, rfl⟩
  have hcl : cur.toList.length = cap * 3 := by rw [Array.length_toList]; exact hcs
  have hc1l : c1.length = cap * 3 := by
    rw [hc1]
    simp only [List.length_append, List.length_take, List.length_drop, hcl, hnl]
    omega
  have hone : ∀ u ∈ L.flatMap siteCells, u.oneCell' = true := fun u hu => by obtain ⟨x, _, hx⟩ := List.mem_flatMap.1 hu; simp [siteCells] at hx; rcases hx with rfl | rfl | rfl <;> rfl
  have hcN : ∀ (W : World), W.heap = w.heap → ∀ j u, news[j]? = some u → W.cell? ((⟨g, (i + 1) * 3, none⟩ : Addr).add j) = some u := fun W hW j u hj => by
    have hg' : W.heap[g]? = some (.cells cur 39 (0, 0)) := by rw [hW]; exact hg
    rw [row_cell hg', ← Array.getElem?_toList]
    rw [hnews, List.getElem?_drop, ← htk] at hj
    have hlt : (i + 1) * 3 + j < L.length * 3 := by
      have := (List.getElem?_eq_some_iff.1 hj).1
      rw [List.length_take] at this
      omega
    rwa [List.getElem?_take_of_lt hlt] at hj
  have r1 : ∀ (W : World) (ty : TypeId) (ca : Nat), W.heap = w.heap → (Builtin.append_ #[22, 22] ty #[.slice (some ⟨g, 0, none⟩) i cap, .slice (some ⟨g, (i + 1) * 3, none⟩) (L.length - (i + 1)) ca]).run Tryd.prog W = .ok (.slice (some ⟨g, 0, none⟩) (L.length - 1) cap) (W.setRow g c1.toArray) := fun W ty ca hW => by
    have hg' : W.heap[g]? = some (.cells cur 39 (0, 0)) := by rw [hW]; exact hg
    have := run_append_rowK (P := Tryd.prog) W 22 ty 39 ti 3 Tryd.underlying22 hi0 hi1 g 0 i cap ⟨g, (i + 1) * 3, none⟩ (L.length - (i + 1)) ca news hnl (hcN W hW) (fun u hu => hone u (by rw [hnews] at hu; exact List.mem_of_mem_drop hu)) (by omega) cur 39 hg' (by rw [hnl, ← Array.length_toList, hcl]; omega)
    rw [this, hc1, Nat.zero_add, show i + (L.length - (i + 1)) = L.length - 1 by omega]
  have r1e : ∀ (W : World) (ty : TypeId) (A0 : Addr) (ca : Nat), L.length = i + 1 → W.heap = w.heap → (Builtin.append_ #[22, 22] ty #[.slice (some ⟨g, 0, none⟩) i cap, .slice (some A0) 0 ca]).run Tryd.prog W = .ok (.slice (some ⟨g, 0, none⟩) (L.length - 1) cap) (W.setRow g c1.toArray) := fun W ty A0 ca hn hW => by
    have hg' : W.heap[g]? = some (.cells cur 39 (0, 0)) := by rw [hW]; exact hg
    have hn0 : news = [] := List.length_eq_zero_iff.1 (by rw [hnl]; omega)
    have := run_append_rowK (P := Tryd.prog) W 22 ty 39 ti 3 Tryd.underlying22 hi0 hi1 g 0 i cap A0 0 ca news (by rw [hn0]; rfl) (fun j u hj => by rw [hn0] at hj; simp at hj) (fun u hu => by rw [hn0] at hu; simp at hu) (by omega) cur 39 hg' (by rw [hn0]; simp only [List.length_nil]; rw [← Array.length_toList, hcl]; omega)
    rw [this, hc1, Nat.zero_add, show i + 0 = L.length - 1 by omega]
  obtain ⟨zs, hzl, hrun⟩ : ∃ zs : List Value, zs.length = 3 ∧ ∀ (W : World), W.heap = (w.setRow g c1.toArray).heap → ∀ ty ca, (Builtin.clear_ #[22] ty #[.slice (some ⟨g, (L.length - 1) * 3, none⟩) 1 ca]).run Tryd.prog W = .ok (.tuple #[]) (W.setRow g (c1.take ((L.length - 1) * 3) ++ zs ++ c1.drop ((L.length - 1) * 3 + zs.length)).toArray) := by
    have hg1 := setRow_heap w g cur c1.toArray _ _ hg
    refine ⟨(Builtin.zeroCells (Value.agg #[.string ⟨#[]⟩, .int .i64 0, .int .i64 0]).cells 1).toList, by simp [Builtin.zeroCells, Value.cells], fun W hW ty ca => ?_⟩
    have hg1' : Blk W g 39 c1 := by unfold Blk; rw [hW]; exact hg1
    exact run_clear_rowE (P := Tryd.prog) W 22 39 (.agg #[.string ⟨#[]⟩, .int .i64 0, .int .i64 0]) Tryd.underlying22 Tryd.zeroValue39 (fun u hu => by simp [Value.cells] at hu; rcases hu with rfl | rfl | rfl <;> rfl) g ((L.length - 1) * 3) 1 ca c1 39 hg1' (by decide) (by
      show (L.length - 1) * 3 + 1 * 3 ≤ c1.length
      rw [hc1l]; omega) ty
  obtain ⟨c2, hc2⟩ : ∃ c2, c2 = c1.take ((L.length - 1) * 3) ++ zs ++ c1.drop ((L.length - 1) * 3 + zs.length) := ⟨_, rfl⟩
  rw [← hc2] at hrun
  have hg1 := setRow_heap w g cur c1.toArray _ _ hg
  have hg2 := setRow_heap (w.setRow g c1.toArray) g c1.toArray c2.toArray _ _ hg1
  have HP : Hid (∀ W : World, W.heap = ((w.setRow g c1.toArray).setRow g c2.toArray).heap → W.os = w.os → W.output = w.output → W.tape = w.tape → DelPostS B (.slice (some ⟨g, 0, none⟩) L.length cap) L i w (.returned (.slice (some ⟨g, 0, none⟩) (L.length - 1) cap)) W) := Lib.hid (fun W hW h1 h2 h3 => by
    have hel : (L.eraseIdx i).length = L.length - 1 := List.length_eraseIdx_of_lt hi
    have ht1 : (cur.toList.take (i * 3) ++ news).length = (L.length - 1) * 3 := by
      simp only [List.length_append, List.length_take, hcl, hnl]
      omega
    have hfin : c2.take ((L.length - 1) * 3) = (L.eraseIdx i).flatMap siteCells := by
      have e1 : c1.take ((L.length - 1) * 3) = cur.toList.take (i * 3) ++ news := by rw [hc1]; exact List.take_left' ht1
      have e2 : (c1.take ((L.length - 1) * 3)).length = (L.length - 1) * 3 := by rw [e1]; exact ht1
      rw [hc2, List.append_assoc, List.take_left' e2, e1, List.eraseIdx_eq_take_drop_succ, List.flatMap_append, ← flat_takeD (f := siteCells) (sz := 3) (fun _ => rfl) L i (by omega), ← flat_dropD (f := siteCells) (sz := 3) (fun _ => rfl) L (i + 1) (by omega), hnews, ← htk, List.take_take, Nat.min_eq_left (by omega)]
    have hc2l : c2.length = cap * 3 := by
      rw [hc2]
      simp only [List.length_append, List.length_take, List.length_drop, hc1l, hzl]
      omega
    refine ⟨_, rfl, ⟨by rw [hel, flat_len (f := siteCells) (sz := 3) (fun _ => rfl), hel], .inr ⟨g, cap, c2.toArray, by rw [hel], hBg, by rw [hW]; exact hg2, by rw [hel]; omega, by unfold maxLen; omega, by rw [List.size_toArray]; exact hc2l, by rw [hel]; exact hfin⟩⟩, ⟨h1, h3, h2, ?_, fun k hk hne' => ?_⟩⟩
    · rw [hW]; simp [World.setRow]
    · have : k ≠ g := fun e => hne' (by rw [e]; rfl)
      rw [hW, setRow_other _ _ _ _ this, setRow_other _ _ _ _ this])
  have R1 := Lib.hid r1
  have R1E := Lib.hid r1e
  have RC := Lib.hid (fun (ty : TypeId) (ca : Nat) => hrun (w.drew.setRow g c1.toArray) rfl ty ca)
  generalize L.length = n at *
  clear hO hxl r1 r1e hrun hzl hc2 hc1 hc1l hcl hnl hnews hone hcN hg1 hg2 hg hBg hnc hcs htk hi0 hz hi1 hi2
  have hb0 : (0 : Int) ≤ (i : Int) := by omega
  have hb1 : ((i : Int) + 1).toNat = i + 1 := by omega
  have hb3 : (i : Int) ≤ (i : Int) + 1 := by omega
  have hb5 : (i : Int) + 1 ≤ (n : Int) := by omega
  have hb6 : (n : Int) ≤ (cap : Int) := by omega
  have hb7 : ((i : Int) == (i : Int) + 1) = false := by rw [beq_eq_false_iff_ne]; omega
  have hb8 : (0 : Int) ≤ (i : Int) + 1 := by omega
  have hb9 : (i : Int) ≤ (cap : Int) := by omega
  have hb10 : (i : Int) ≤ (n : Int) := by omega
  have hb11 : (i : Int) + 1 ≤ (cap : Int) := by omega
  have hb12 : ((n - 1 : Nat) : Int) ≤ (n : Int) := by omega
  have hb13 : ¬ (cap = n - 1) := by omega
  have hb14 : n - (n - 1) = 1 := by omega
  have hb15 : ¬ (cap = i) := by omega
  by_cases hce : cap = i + 1
  · have hn1 : n = i + 1 := by omega
    subst hn1
    subst hce
    have hb16 : i + 1 - 1 = i := by omega
    have HP2 := HP
    have RC2 := RC
    rw [hb16] at HP2 RC2
    have R2E := Lib.hid (fun (ty : TypeId) (A0 : Addr) (ca : Nat) => R1E.out w.drew ty A0 ca rfl rfl)
    rw [hb16] at R2E
    have hb17 : i + 1 - i = 1 := by omega
    have hb18 : ¬ (i + 1 = i) := by omega
    clear R1 R1E HP RC
    go_enter Tryd.func14, Tryd.ntmps14
    go_wp2_with fail
    go_region_law (first | (refine step_append_runK rfl (.tmp 22) (.tmp 25) 22 22 rfl (.slice (some ⟨g, 0, none⟩) i (i + 1)) (.slice (some ⟨g, 0, none⟩) 0 0) (by simp [Act.eval, Act.put]) (by simp [Act.eval, Act.put]) (R2E.out _ _ _) ?_) | fail)
    go_wp2_with (with_reducible refine wpList_clear_runK _ rfl (.tmp 31) 22 rfl _ rfl (RC2.out _ _) ?_)
    go_ret
    exact HP2.out _ rfl rfl rfl rfl
  · go_enter Tryd.func14, Tryd.ntmps14
    go_wp2_with fail
    go_region_law (first | (refine step_append_runK rfl (.tmp 22) (.tmp 25) 22 22 rfl (.slice (some ⟨g, 0, none⟩) i cap) (.slice (some ⟨g, (i + 1) * 3, none⟩) (n - (i + 1)) (cap - (i + 1))) (by simp [Act.eval, Act.put]) (by simp [Act.eval, Act.put]) (R1.out _ _ _ rfl) ?_) | fail)
    go_wp2_with (with_reducible refine wpList_clear_runK _ rfl (.tmp 31) 22 rfl _ rfl (RC.out _ _) ?_)
    go_ret
    exact HP.out _ rfl rfl rfl rfl
def belowK (x : Int) (n : Nat) : Nat := (x % (n : Int)).toNat
theorem belowK_lt (x : Int) {n : Nat} (h : 0 < n) : belowK x n < n := by unfold belowK; have := Int.emod_lt_of_pos x (show (0 : Int) < n by omega); have := Int.emod_nonneg x (show (n : Int) ≠ 0 by omega); omega
set_option maxHeartbeats 400000 in
theorem refBelow_any (x : Int) (n : Nat) (w : World) (h0 : 0 < n) (hn : n ≤ 100000) (hx : (Lit.int .i64 x).wf = true) :
    Calls Tryd.prog 13 #[.int .i64 x, .int .i64 n] w fun e w' => e = .returned (.int .i64 (belowK x n)) ∧ w = w' := by
  have hlo := Int.emod_nonneg x (show (n : Int) ≠ 0 by omega)
  have hhi := Int.emod_lt_of_pos x (show (0 : Int) < n by omega)
  have hte := @Int.tmod_eq_emod x n
  by_cases h : x.tmod n < 0
  · have hv : x.tmod n + n = (belowK x n : Int) := by
      unfold belowK
      split at hte <;> omega
    have hw : wrap64 (x.tmod n + n) = (belowK x n : Int) := by rw [hv]; exact IntWalk.wrap64_in _ (by have := belowK_lt x h0; omega)
    have HW := Lib.hid hw
    clear hlo hhi hte hw hv
    go_enter Tryd.func13, Tryd.ntmps13
    go_wp2
    go_ret
    exact ⟨by show Ending.returned (Value.int .i64 (wrap64 (x.tmod n + n))) = _; rw [HW.out], rfl⟩
  · have hv : x.tmod n = (belowK x n : Int) := by
      unfold belowK
      split at hte <;> omega
    have HV := Lib.hid hv
    clear hlo hhi hte hv
    go_enter Tryd.func13, Tryd.ntmps13
    go_wp2
    go_ret
    exact ⟨by show Ending.returned (Value.int .i64 (x.tmod n)) = _; rw [HV.out], rfl⟩
theorem site_sz {w : World} {S : Nat → Prop} {v : Value} {l : List Site} (h : (Rp.sl siteRp).ok w S [v] l) : ∀ y ∈ l, y.name.length ≤ maxLen ∧ (Lit.int .i64 y.weight).wf = true ∧ (Lit.int .i64 y.room).wf = true := by
  intro y hy
  obtain ⟨k, hk, rfl⟩ := List.getElem_of_mem hy
  obtain ⟨A, c, rfl, _⟩ := Rp.sl_open h
  obtain ⟨ad, us, rfl, _, hb, hu, hcell⟩ := Rp.sl_at h hk
  obtain ⟨_, _, rfl, ⟨rfl, h1⟩, _, _, rfl, ⟨rfl, h2⟩, ⟨rfl, h3⟩⟩ := hu
  rw [bstr_size] at h1
  exact ⟨h1, h2, h3⟩
theorem site_mkD {w : World} {S : Nat → Prop} {c : Site} (h : c.name.length ≤ maxLen ∧ (Lit.int .i64 c.weight).wf = true ∧ (Lit.int .i64 c.room).wf = true) : siteRp.ok w S (siteCells c) c := ⟨[_], [_, _], rfl, ⟨rfl, by rw [bstr_size]; exact h.1⟩, [_], [_], rfl, ⟨rfl, h.2.1⟩, ⟨rfl, h.2.2⟩⟩
set_option maxRecDepth 100000 in
set_option maxHeartbeats 4000000 in
theorem withoutSite_any (v0 : Value) (s : List Site) (x : Int) (w : World) (h0 : (Rp.sl siteRp).ok w (· < w.heap.size) [v0] s) (hl0 : 0 < s.length) (hl : s.length ≤ 50) (hx : (Lit.int .i64 x).wf = true) :
    Calls Tryd.prog 6 #[v0, .int .i64 x] w fun e w' => ∃ v, ∃ m, ∃ hm : m < s.length, e = .returned (.tuple #[v, .string (bstr s[m].name)]) ∧ (Rp.sl siteRp).ok w' (· < w'.heap.size) [v] (s.eraseIdx m) ∧ Below w.heap.size w w' := by
  have hm := belowK_lt x hl0
  have HSZ := Lib.hid (site_sz h0)
  have H0 := Lib.hid h0
  obtain ⟨ad, c0, rfl, hadb, q0, _, _, _⟩ := site_at h0 hm
  obtain ⟨_, _, _, hlc, hcm, _⟩ := Rp.sl_open h0
  have hlc : s.length ≤ c0 := by rename_i hv _; injection hv with _ _ hv; omega
  clear h0
  go_enter Tryd.func6, Tryd.ntmps6
  go_wp2_with fail
  refine (refBelow_any x s.length w hl0 (by omega) hx).mono ?_
  rintro e w1 ⟨rfl, hw⟩
  subst hw
  generalize belowK x s.length = m at *
  have KEEP : Hid (∀ w', Below w.heap.size w w' → w'.cell? (ad.add (m * 3)) = some (.string (bstr s[m].name))) := Lib.hid (fun w' h => (h.cell (p := ad.add (m * 3)) (by rw [add_block]; exact hadb)).trans q0)
  have hw1 : IntKind.i64.wrap ((m : Int) + 1) = (m : Int) + 1 := IntWalk.i64_in _ (by omega)
  have hm0 : (0 : Int) ≤ (m : Int) := by omega
  have hmL : (m : Int) < (s.length : Int) := by omega
  clear q0
  go_wp2_with fail
  refine wp_region_held_drew (S := fun w' => w'.cell? (ad.add (m * 3)) = some (.string (bstr s[m].name))) (by kernel_rfl) (KEEP.out _ (Below.drew (Below.refl _ _))) (fun hHeld => ?_)
  obtain ⟨wq, hwq⟩ : ∃ wq, wq = World.drew w := ⟨_, rfl⟩
  have HGq : Hid (Below w.heap.size w wq) := Lib.hid (by rw [hwq]; exact Below.drew (Below.refl _ _))
  rw [← hwq] at hHeld ⊢
  clear hwq
  refine wpAnyH_take (i := 0) (v := ?_) rfl (by kernel_rfl) (by kernel_rfl) (by kernel_rfl) (fun _ _ _ h => h) (Or.inl ⟨by rfl, ?_⟩) (by assumption) ?_
  rotate_left
  · (intro w hSw; (try dsimp only at hSw); go_simp; try with_reducible rfl)
  try simp only [List.getElem_toArray, List.getElem_cons_succ, List.getElem_cons_zero, Act.put, List.setIfInBounds_toArray, List.set_cons_zero, List.set_cons_succ]
  refine wpAnyH_take (i := 2) (v := ?_) rfl (by kernel_rfl) (by kernel_rfl) (by kernel_rfl) (fun _ _ _ h => h) (Or.inl ⟨by rfl, ?_⟩) (by assumption) ?_
  rotate_left
  · (intro w hSw; (try dsimp only at hSw); go_simp; try with_reducible rfl)
  try simp only [List.getElem_toArray, List.getElem_cons_succ, List.getElem_cons_zero, Act.put, List.setIfInBounds_toArray, List.set_cons_zero, List.set_cons_succ]
  refine wpAnyH_take (i := 3) (v := ?_) rfl (by kernel_rfl) (by kernel_rfl) (by kernel_rfl) (fun _ _ _ h => h) (Or.inl ⟨by rfl, ?_⟩) (by assumption) ?_
  rotate_left
  · (intro w hSw; (try dsimp only at hSw); go_simp; try with_reducible rfl)
  try simp only [List.getElem_toArray, List.getElem_cons_succ, List.getElem_cons_zero, Act.put, List.setIfInBounds_toArray, List.set_cons_zero, List.set_cons_succ]
  refine wpAnyH_take (i := 4) (v := ?_) rfl (by kernel_rfl) (by kernel_rfl) (by kernel_rfl) (fun _ _ _ h => h) (Or.inl ⟨by rfl, ?_⟩) (by assumption) ?_
  rotate_left
  · (intro w hSw; (try dsimp only at hSw); go_simp; try with_reducible rfl)
  try simp only [List.getElem_toArray, List.getElem_cons_succ, List.getElem_cons_zero, Act.put, List.setIfInBounds_toArray, List.set_cons_zero, List.set_cons_succ]
  refine wpAnyH_take (i := 6) (v := ?_) rfl (by kernel_rfl) (by kernel_rfl) (by kernel_rfl) (fun _ _ _ h => h) (Or.inl ⟨by rfl, ?_⟩) (by assumption) ?_
  rotate_left
  · (intro w hSw; (try dsimp only at hSw); go_simp; try with_reducible rfl)
  try simp only [List.getElem_toArray, List.getElem_cons_succ, List.getElem_cons_zero, Act.put, List.setIfInBounds_toArray, List.set_cons_zero, List.set_cons_succ]
  refine wpAnyH_take (i := 7) (v := ?_) rfl (by kernel_rfl) (by kernel_rfl) (by kernel_rfl) (fun _ _ _ h => h) (Or.inl ⟨by rfl, ?_⟩) (by assumption) ?_
  rotate_left
  · (intro w hSw; (try dsimp only at hSw); go_simp; try with_reducible rfl)
  try simp only [List.getElem_toArray, List.getElem_cons_succ, List.getElem_cons_zero, Act.put, List.setIfInBounds_toArray, List.set_cons_zero, List.set_cons_succ]
  refine wpAnyH_take (i := 8) (v := ?_) rfl (by kernel_rfl) (by kernel_rfl) (by kernel_rfl) (fun _ _ _ h => h) (Or.inl ⟨by rfl, ?_⟩) (by assumption) ?_
  rotate_left
  · (intro w hSw; (try dsimp only at hSw); go_simp; try with_reducible rfl)
  try simp only [List.getElem_toArray, List.getElem_cons_succ, List.getElem_cons_zero, Act.put, List.setIfInBounds_toArray, List.set_cons_zero, List.set_cons_succ]
  refine wpAnyH_take (i := 9) (v := ?_) rfl (by kernel_rfl) (by kernel_rfl) (by kernel_rfl) (fun _ _ _ h => h) (Or.inl ⟨by rfl, ?_⟩) (by assumption) ?_
  rotate_left
  · (intro w hSw; (try dsimp only at hSw); go_simp; try with_reducible rfl)
  try simp only [List.getElem_toArray, List.getElem_cons_succ, List.getElem_cons_zero, Act.put, List.setIfInBounds_toArray, List.set_cons_zero, List.set_cons_succ]
  refine wpAnyH_take (i := 10) (v := ?_) rfl (by kernel_rfl) (by kernel_rfl) (by kernel_rfl) (fun _ _ _ h => h) (Or.inl ⟨by rfl, ?_⟩) (by assumption) ?_
  rotate_left
  · (intro w hSw; (try dsimp only at hSw); go_simp; try with_reducible rfl)
  try simp only [List.getElem_toArray, List.getElem_cons_succ, List.getElem_cons_zero, Act.put, List.setIfInBounds_toArray, List.set_cons_zero, List.set_cons_succ]
  refine wpAnyH_ready (rs := [1]) (by kernel_rfl) (by simp) ?_
  refine AllReadyH.cons rfl (fun K hK => ?_) AllReadyH.nil
  rw [if_pos (by rfl)]
  simp only [List.getElem_toArray, List.getElem_cons_succ, List.getElem_cons_zero]
  go_simp
  go_at_call 15
  refine (cloneSite_any _ s wq (Rp.ext _ H0.out HGq.out) (by omega)).mono ?_
  rintro e w5 ⟨v5, rfl, hO5, hw⟩
  have HG5 : Hid (Below w.heap.size w w5) := Lib.hid (HGq.out.trans (hw.mono HGq.out.size))
  have HO5 := Lib.hid (own_baseP hO5 HGq.out.size)
  clear hw hO5
  show K _ w5
  refine hK.out _ _ (KEEP.out _ HG5.out) (fun hHeld => ?_)
  clear hK K
  try simp only [List.getElem_toArray, List.getElem_cons_succ, List.getElem_cons_zero, Act.put, List.setIfInBounds_toArray, List.set_cons_zero, List.set_cons_succ]
  refine wpAnyH_ready (rs := [5]) (by kernel_rfl) (by simp) ?_
  refine AllReadyH.cons rfl (fun K hK => ?_) AllReadyH.nil
  rw [if_pos (by rfl)]
  simp only [List.getElem_toArray, List.getElem_cons_succ, List.getElem_cons_zero]
  go_simp
  go_at_call 14
  refine (delSite_any v5 s m w.heap.size w5 HO5.out hm (by omega)).mono ?_
  rintro e w6 ⟨v6, rfl, hO6, hg6⟩
  have HG6 : Hid (Below w.heap.size w w6) := Lib.hid (HG5.out.grown hg6 HG5.out.size (fun j e => (HO5.out.lt j e).1))
  have HO6 := Lib.hid hO6
  clear hg6 hO6
  show K _ w6
  refine hK.out _ _ (KEEP.out _ HG6.out) (fun hHeld => ?_)
  clear hK K
  try simp only [List.getElem_toArray, List.getElem_cons_succ, List.getElem_cons_zero, Act.put, List.setIfInBounds_toArray, List.set_cons_zero, List.set_cons_succ]
  refine wpAnyH_take (i := 11) (v := ?_) rfl (by kernel_rfl) (by kernel_rfl) (by kernel_rfl) (fun _ _ _ h => h) (Or.inl ⟨by rfl, ?_⟩) (by assumption) ?_
  rotate_left
  · (intro w hSw; (try dsimp only at hSw); go_simp; try with_reducible rfl)
  try simp only [List.getElem_toArray, List.getElem_cons_succ, List.getElem_cons_zero, Act.put, List.setIfInBounds_toArray, List.set_cons_zero, List.set_cons_succ]
  refine wpAnyH_take (i := 12) (v := ?_) rfl (by kernel_rfl) (by kernel_rfl) (by kernel_rfl) (fun _ _ _ h => h) (Or.inl ⟨by rfl, ?_⟩) (by assumption) ?_
  rotate_left
  · (intro w hSw; (try dsimp only at hSw); go_simp; try with_reducible rfl)
  try simp only [List.getElem_toArray, List.getElem_cons_succ, List.getElem_cons_zero, Act.put, List.setIfInBounds_toArray, List.set_cons_zero, List.set_cons_succ]
  refine wpAnyH_done (by kernel_rfl) ?_ _
  clear hHeld KEEP HGq HG5
  go_wp2_with fail
  go_ret2
  exact ⟨_, m, hm, rfl, Rp.of_ownN (R := siteRp) (by decide) (fun _ => rfl) HO6.out (fun g hg => (HO6.out.lt g hg).2) (fun y hy => site_mkD (HSZ.out y (List.mem_of_mem_eraseIdx hy))), HG6.out⟩
end Go.Proofs.YtdeeiifcjbmmiaaDoor
