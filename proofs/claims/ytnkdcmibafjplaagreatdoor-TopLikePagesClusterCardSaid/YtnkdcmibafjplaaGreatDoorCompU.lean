/-
  slices.Compact at []uint64, of a row that the call owns.
-/
import Derived.Test.YtnkdcmibafjplaaGreatDoorProg
import Derived.Test.YtnkdcmibafjplaaGreatDoorBase
import Derived.Test.YtnkdcmibafjplaaGreatDoorSortU
import Derived.Test.YtnkdcmibafjplaaGreatDoorInsP
import Derived.Deep.QuietTactic
import Derived.BigQuiet
namespace Go.Proofs.YtnkdcmibafjplaaGreatDoor
open Go.RowKit Go.Sort
set_option linter.unusedVariables false
set_option linter.unusedSimpArgs false

/-! ### Plain -/
def keepU (zs : List Int) (i : Nat) : Bool := i == 0 || zs.getD i 0 != zs.getD (i - 1) 0
theorem getD_eqU {l : List Int} {i : Nat} (h : i < l.length) : l.getD i 0 = l[i] := by simp [List.getD_eq_getElem?_getD, h]
theorem keepU_false {zs : List Int} {m : Nat} (hm : 0 < m) (he : zs.getD m 0 = zs.getD (m - 1) 0) : keepU zs m = false := by
  unfold keepU
  rw [he, bne_self_eq_false, Bool.or_false, beq_eq_false_iff_ne]
  omega
theorem keepU_true {zs : List Int} {m : Nat} (he : zs.getD m 0 ≠ zs.getD (m - 1) 0) : keepU zs m = true := by
  unfold keepU
  rw [Bool.or_eq_true_iff]
  exact .inr (by rw [bne_iff_ne]; exact he)
theorem keepU_one (zs : List Int) : ∀ j, j < 1 → keepU zs j = true := fun j hj => by
  obtain rfl : j = 0 := by omega
  rfl
def cmpU (zs : List Int) : Nat → List Int
  | 0 => []
  | i + 1 => if keepU zs i = true then cmpU zs i ++ [zs.getD i 0] else cmpU zs i
def compU (zs : List Int) : List Int := cmpU zs zs.length
theorem cmpU_len (zs : List Int) : ∀ i, (cmpU zs i).length ≤ i
  | 0 => by simp [cmpU]
  | i + 1 => by
    have := cmpU_len zs i
    unfold cmpU
    split
    · simp; omega
    · omega
theorem compU_len (zs : List Int) : (compU zs).length ≤ zs.length := cmpU_len zs _
theorem cmpU_take (zs : List Int) : ∀ k, k ≤ zs.length → (∀ j, j < k → keepU zs j = true) → cmpU zs k = zs.take k
  | 0, _, _ => by simp [cmpU]
  | k + 1, hk, h => by
    unfold cmpU
    rw [if_pos (h k (by omega)), cmpU_take zs k (by omega) (fun j hj => h j (by omega)), List.take_succ_eq_append_getElem (by omega : k < zs.length)]
    rw [getD_eqU (by omega : k < zs.length)]
theorem cmpU_mem (zs : List Int) (x : Int) : ∀ i, i ≤ zs.length → (x ∈ cmpU zs i ↔ x ∈ zs.take i)
  | 0, _ => by simp [cmpU]
  | i + 1, hi => by
    have ih := cmpU_mem zs x i (by omega)
    have hlt : i < zs.length := by omega
    unfold cmpU
    rw [List.take_succ_eq_append_getElem hlt]
    split
    · rw [List.mem_append, List.mem_append, ih, getD_eqU hlt]
    · rename_i hk
      rw [ih, List.mem_append]
      refine ⟨Or.inl, fun h => h.elim id (fun h => ?_)⟩
      have hx : x = zs[i] := by simpa using h
      unfold keepU at hk
      simp only [Bool.or_eq_true, beq_iff_eq, bne_iff_ne, not_or, ne_eq, Decidable.not_not] at hk
      have h0 : 0 < i := by omega
      rw [getD_eqU hlt, getD_eqU (by omega : i - 1 < zs.length)] at hk
      rw [hx, hk.2]
      exact List.mem_take_iff_getElem.2 ⟨i - 1, by omega, rfl⟩
theorem compU_mem {zs : List Int} {x : Int} : x ∈ compU zs ↔ x ∈ zs := by
  unfold compU; rw [cmpU_mem zs x _ (Nat.le_refl _), List.take_length]
theorem cmpU_sorted {zs : List Int} (h : zs.Pairwise (· ≤ ·)) : ∀ i, i ≤ zs.length → (cmpU zs i).Pairwise (· < ·) ∧ ∀ x ∈ cmpU zs i, ∀ hi : 0 < i, x ≤ zs.getD (i - 1) 0
  | 0, _ => by simp [cmpU]
  | i + 1, hi => by
    have ih := cmpU_sorted h i (by omega)
    have hlt : i < zs.length := by omega
    have hle : ∀ hi : 0 < i, zs.getD (i - 1) 0 ≤ zs.getD i 0 := fun hi => by
      rw [getD_eqU hlt, getD_eqU (by omega : i - 1 < zs.length)]
      exact List.pairwise_iff_getElem.1 h _ _ _ _ (by omega)
    unfold cmpU
    split
    · rename_i hk
      have hnew : ∀ x ∈ cmpU zs i, x < zs.getD i 0 := fun x hx => by
        rcases Nat.eq_zero_or_pos i with rfl | h0
        · simp [cmpU] at hx
        · have h1 := ih.2 x hx h0
          have h2 := hle h0
          unfold keepU at hk
          have h3 : zs.getD i 0 ≠ zs.getD (i - 1) 0 := by
            rcases Bool.or_eq_true_iff.1 hk with h | h
            · have : i = 0 := by simpa using h
              omega
            · simpa using h
          omega
      refine ⟨List.pairwise_append.2 ⟨ih.1, by simp, fun a ha b hb => by rw [List.mem_singleton.1 hb]; exact hnew a ha⟩, fun x hx _ => ?_⟩
      rw [Nat.add_sub_cancel]
      rcases List.mem_append.1 hx with hx | hx
      · exact Int.le_of_lt (hnew x hx)
      · rw [List.mem_singleton.1 hx]; exact Int.le_refl _
    · refine ⟨ih.1, fun x hx _ => ?_⟩
      rw [Nat.add_sub_cancel]
      rcases Nat.eq_zero_or_pos i with rfl | h0
      · simp [cmpU] at hx
      · exact Int.le_trans (ih.2 x hx h0) (hle h0)
theorem compU_sorted {zs : List Int} (h : zs.Pairwise (· ≤ ·)) : (compU zs).Pairwise (· < ·) := (cmpU_sorted h _ (Nat.le_refl _)).1
/-- What the second loop keeps of the row. -/
structure CmpInv (zs : List Int) (cap k m : Nat) (cur : List Value) : Prop where
  len : cur.length = cap
  pre : cur.take k = (cmpU zs m).map u64V
  cnt : (cmpU zs m).length = k
  lt : k < m
  rest : ∀ j, m ≤ j + 1 → j < zs.length → cur[j]? = some (u64V (zs.getD j 0))
theorem CmpInv.skip {zs : List Int} {cap k m : Nat} {cur : List Value} (h : CmpInv zs cap k m cur) (hm : 0 < m) (he : zs.getD m 0 = zs.getD (m - 1) 0) : CmpInv zs cap k (m + 1) cur := by
  have hk := keepU_false hm he
  have e : cmpU zs (m + 1) = cmpU zs m := by rw [cmpU, if_neg (by rw [hk]; decide)]
  exact ⟨h.len, by rw [e]; exact h.pre, by rw [e]; exact h.cnt, by have := h.lt; omega, fun j j1 j2 => h.rest j (by omega) j2⟩
theorem CmpInv.keep {zs : List Int} {cap k m : Nat} {cur : List Value} (h : CmpInv zs cap k m cur) (hml : m < zs.length) (hc : zs.length ≤ cap) (he : zs.getD m 0 ≠ zs.getD (m - 1) 0) : CmpInv zs cap (k + 1) (m + 1) (cur.set k (u64V (zs.getD m 0))) := by
  have hk := keepU_true he
  have e : cmpU zs (m + 1) = cmpU zs m ++ [zs.getD m 0] := by rw [cmpU, if_pos hk]
  have hlt := h.lt
  have hl := h.len
  refine ⟨by simp [hl], ?_, by rw [e, List.length_append, h.cnt]; rfl, by omega, fun j j1 j2 => ?_⟩
  · rw [e, List.map_append, ← h.pre, List.take_succ_eq_append_getElem (by simp; omega)]
    rw [List.take_set_of_le (by omega)]
    simp
  · rw [List.getElem?_set_ne (by omega)]
    exact h.rest j (by omega) j2
theorem CmpInv.start {zs : List Int} {cap k : Nat} {cur : List Value} (hl : cur.length = cap) (ht : cur.take zs.length = zs.map u64V) (hk : k < zs.length) (h0 : 0 < k) (he : zs.getD k 0 = zs.getD (k - 1) 0) (hf : ∀ j, j < k → keepU zs j = true) : CmpInv zs cap k (k + 1) cur := by
  have hkk := keepU_false h0 he
  have e : cmpU zs (k + 1) = zs.take k := by rw [cmpU, if_neg (by rw [hkk]; decide), cmpU_take zs k (by omega) hf]
  refine ⟨hl, ?_, by rw [e, List.length_take]; omega, by omega, fun j j1 j2 => ?_⟩
  · rw [e]
    have : cur.take k = (cur.take zs.length).take k := by rw [List.take_take]; congr 1; omega
    rw [this, ht, List.map_take]
  · rw [← List.getElem?_take_of_lt j2, ht]
    simp [j2, List.getD_eq_getElem?_getD]
theorem CmpInv.at {zs : List Int} {cap k m : Nat} {cur : List Value} (h : CmpInv zs cap k m cur) (j : Nat) (h1 : m ≤ j + 1) (h2 : j < zs.length) : cur[j]? = some (u64V (zs.getD j 0)) := h.rest j h1 h2
theorem set3U_dummy : True := trivial
theorem run_clear_rowU {P : Program} (w : World) (t e : TypeId) (z : Value) (ht : P.underlying t = some (.slice e)) (hv : ∀ w, (zeroValue e).run P w = .ok z w) (h1 : ∀ u ∈ z.cells.toList, u.oneCell' = true) (g o n c : Nat) (cur : List Value) (t' : TypeId)
    (hg : Blk w g t' cur) (hn : 0 < n) (hfit : o + n * z.cells.size ≤ cur.length) : ∃ zs : List Value, zs.length = n * z.cells.size ∧ ∀ ty, (Builtin.clear_ #[t] ty #[.slice (some ⟨g, o, none⟩) n c]).run P w = .ok (.tuple #[]) (w.setRow g (cur.take o ++ zs ++ cur.drop (o + zs.length)).toArray) := by
  refine ⟨(Builtin.zeroCells z.cells n).toList, by simp [Builtin.zeroCells], fun ty => ?_⟩
  have hl : (Builtin.zeroCells z.cells n).toList.length = n * z.cells.size := by simp [Builtin.zeroCells]
  have hst := run_storeCells_at P g o t' (Builtin.zeroCells z.cells n).toList 0 cur.toArray w hg (by simp only [Nat.add_zero, List.size_toArray]; omega) (fun u hu => by
    simp only [Builtin.zeroCells, Array.toList_map, List.mem_map] at hu
    obtain ⟨i, hi, rfl⟩ := hu
    have hi' : i < n * z.cells.size := by simpa using hi
    have hs : 0 < z.cells.size := by
      rcases Nat.eq_zero_or_pos z.cells.size with h | h
      · rw [h, Nat.mul_zero] at hi'; omega
      · exact h
    have hm : i % z.cells.size < z.cells.size := Nat.mod_lt _ hs
    rw [getElem!_pos z.cells _ hm]
    exact h1 _ (by simp))
  obtain ⟨m, rfl⟩ : ∃ m, n = m + 1 := ⟨n - 1, by omega⟩
  simp [Builtin.clear_, run_underlying ht, hv, hst]
theorem wpList_clear_runU {P : Program} (w : World) {ops : Array Oper} {rest : List Oper} {o : Oper} {a : Act} {Q : Exit → Act → World → Prop} (hgd : o.guard = none) (s : Operand) (t : TypeId)
    (ho : o.op = .call { callee := .builtin .clear, args := #[s], argTypes := #[t] }) (v : Value) (hs : a.eval s = v) {v' : Value} {w' : World}
    (hr : (Builtin.clear_ #[t] o.type #[v]).run P w = .ok v' w') (h : wpList P ops Q rest (a.put o.dst v') w') : wpList P ops Q (o :: rest) a w := by
  refine wpList_plain hgd fun K hK => ?_
  unfold Oper.wp execOp
  simp only [ho, resolve, invoke, builtin, Sem.run_bind, Sem.run_pure, Result.andThen_ok, List.map_toArray, List.map_cons, List.map_nil, hs, hr]
  exact hK _ _ h
theorem grown_setU {w w2 : World} {g : Nat} (h : w.grownBy w2 (some g)) (i : Nat) (v : Value) : w.grownBy (w2.setCell ⟨g, i, none⟩ v) (some g) :=
  ⟨h.os, h.tape, h.output, by simpa using h.size, fun k hk hne => (Below.heap_setCell _ _ _ k (fun e => hne (by rw [e]))).trans (h.block k hk hne)⟩
theorem grown_rowU {w w2 : World} {g : Nat} (h : w.grownBy w2 (some g)) (cs : Array Value) : w.grownBy (w2.setRow g cs) (some g) :=
  ⟨h.os, h.tape, h.output, by simpa [World.setRow] using h.size, fun k hk hne => (setRow_other w2 g k cs (fun e => hne (by rw [e]))).trans (h.block k hk hne)⟩
theorem grown_drewU {w w2 : World} {r : Option Nat} (h : w.grownBy w2 r) (n : Nat) : w.grownBy (w2.drewN n) r := ⟨h.os, h.tape, h.output, h.size, h.block⟩
theorem drew_addU (w : World) (n : Nat) : ∀ m, (w.drewN n).drewN m = w.drewN (n + m) := fun m => by rw [World.drewN_drewN]
theorem Blk.drewU {w : World} {g : Nat} {t : TypeId} {cs : List Value} (h : Blk w g t cs) (n : Nat) : Blk (w.drewN n) g t cs := h
def CompPostU (B : Nat) (v : Value) (zs : List Int) (w : World) (e : Ending) (w' : World) : Prop :=
  ∃ v', e = .returned v' ∧ w'.ownsRow B 95 1 v' (compU zs).length ((compU zs).map u64V) ∧ w.grownBy w' v.ownBlock ∧ (v'.ownBlock = v.ownBlock)
theorem compU_whole {zs : List Int} (hf : ∀ j, j < zs.length → keepU zs j = true) : compU zs = zs := by
  unfold compU; rw [cmpU_take zs _ (Nat.le_refl _) hf, List.take_length]
theorem beq_trueU {a b : Int} (h : a = b) : (a == b) = true := by simp [h]
theorem beq_falseU {a b : Int} (h : a ≠ b) : (a == b) = false := by simp [h]
set_option maxRecDepth 100000 in
set_option maxHeartbeats 4000000 in
theorem compU_any (v : Value) (zs : List Int) (B : Nat) (w : World) (hO : w.ownsRow B 95 1 v zs.length (zs.map u64V)) (hsz : zs.length ≤ 1000000) :
    Calls Tryz.prog 50 #[v] w (CompPostU B v zs w) := by
  obtain ⟨A, c, rfl, hnc, hcm, _⟩ := own_form hO
  unfold maxLen at hcm
  have HO := Lib.hid hO
  clear hO
  by_cases h2 : zs.length < 2
  · have HK : Hid (compU zs = zs) := Lib.hid (compU_whole (fun j hj => by
      obtain rfl : j = 0 := by omega
      rfl))
    have h2z : (zs.length : Int) < 2 := by omega
    go_enter Tryz.func50, Tryz.ntmps50
    go_wp2_with fail
    go_ret
    exact ⟨_, rfl, by rw [HK.out]; exact HO.out, ⟨rfl, rfl, rfl, Nat.le_refl _, fun k _ _ => rfl⟩, rfl⟩
  obtain ⟨g, cur, rfl, hBg, hg, hcs, htk⟩ : ∃ (g : Nat) (cur : List Value), A = some ⟨g, 0, none⟩ ∧ B ≤ g ∧ Blk w g 95 cur ∧ cur.length = c ∧ cur.take zs.length = zs.map u64V := by
    rcases HO.out.2 with ⟨e1, h2⟩ | ⟨g, cap, cur, e1, hb, hh, _, _, h5, h6⟩
    · omega
    · injection e1 with e1 _ e3
      subst e1 e3
      exact ⟨g, cur.toList, rfl, hb, by unfold Blk; simpa using hh, by simpa using h5, by rw [Nat.mul_one] at h6; exact h6⟩
  have HB0 := Lib.hid hg
  have HCS := Lib.hid hcs
  have HTK := Lib.hid htk
  have h2z : ¬ (zs.length : Int) < 2 := by omega
  clear hg hcs htk
  go_enter Tryz.func50, Tryz.ntmps50
  go_wp2_with fail
  go_loopw [3] (fun vk wr => ∃ k : Nat, 1 ≤ k ∧ k ≤ zs.length ∧ vk = .int .i64 k ∧ Hid (∀ j, j < k → keepU zs j = true) ∧ Hid (∃ n, wr = w.drewN n)) (fun vk _ => zs.length - (intOf vk).toNat)
  case atStart => exact ⟨1, by omega, by omega, rfl, Lib.hid (keepU_one zs), Lib.hid ⟨0, rfl⟩⟩
  case round =>
    obtain ⟨k, hk1, hkn, rfl, HF, HW⟩ := hrel
    by_cases hlt : k < zs.length
    · have HB : Hid (Blk wr g 95 cur) := Lib.hid (by obtain ⟨n, rfl⟩ := HW.out; exact HB0.out.drewU n)
      have hat : ∀ j, j < zs.length → cur[j]? = some (u64V (zs.getD j 0)) := fun j hj => by
        rw [← List.getElem?_take_of_lt hj, HTK.out]
        simp [hj, List.getD_eq_getElem?_getD]
      have c1 : wr.cell? ⟨g, k, none⟩ = some (.int .u64 (zs.getD k 0)) := by rw [HB.out.cell]; exact hat k hlt
      have c2 : wr.cell? ⟨g, k - 1, none⟩ = some (.int .u64 (zs.getD (k - 1) 0)) := by rw [HB.out.cell]; exact hat _ (by omega)
      clear hat
      have r1 : IntKind.i64.wrap ((k : Int) - 1) = ((k - 1 : Nat) : Int) := by rw [IntKind.wrap_i64]; omega
      have i1 : ((k - 1 : Nat) : Int) < (zs.length : Int) := by omega
      have i2 : (k : Int) < (zs.length : Int) := by omega
      have i3 : ((k : Int)).toNat = k := by omega
      by_cases he : zs.getD k 0 = zs.getD (k - 1) 0
      · have HI : Hid (CmpInv zs c k (k + 1) cur) := Lib.hid (CmpInv.start HCS.out HTK.out hlt (by omega) he HF.out)
        have hbe := beq_trueU he
        generalize zs.getD k 0 = a at *
        generalize zs.getD (k - 1) 0 = b at *
        have HWG : Hid (∀ n, w.grownBy (wr.drewN n) (some g)) := Lib.hid (fun n => by obtain ⟨m, rfl⟩ := HW.out; exact ⟨rfl, rfl, rfl, Nat.le_refl _, fun k _ _ => rfl⟩)
        clear HF HW
        go_wp2_with fail
        go_quiet (fail)
        have HB1 := Lib.hid (HB.out.drewU nq)
        have HWQ := Lib.hid (HWG.out nq)
        clear HB HWG c1 c2 hbe he
        obtain ⟨wq, hwq⟩ : ∃ wq, wq = wr.drewN nq := ⟨_, rfl⟩
        rw [← hwq] at HB1 HWQ ⊢
        clear hwq
        go_wp2_with fail
        go_loopw [3, 5] (fun vk vj wr => ∃ (k' j : Nat) (cur : List Value), vk = .int .i64 k' ∧ vj = .int .i64 j ∧ 1 ≤ j ∧ k + j ≤ zs.length ∧ k' < k + j ∧ k ≤ k' ∧ Hid (CmpInv zs c k' (k + j) cur) ∧ Hid (Blk wr g 95 cur) ∧ Hid (w.grownBy wr (some g))) (fun _ vj _ => zs.length - (intOf vj).toNat)
        case atStart => exact ⟨k, 1, cur, rfl, rfl, by omega, by omega, by omega, by omega, HI, HB1, HWQ⟩
        case round =>
          clear HI HB1 HWQ
          obtain ⟨k', j, cur, rfl, rfl, hj1, hjn, hk'j, hkk', HI, HB, HW⟩ := hrel
          have ls : (zs.length : Int) - (k : Int) = ((zs.length - k : Nat) : Int) := by omega
          by_cases hlt : k + j < zs.length
          · have c1 : wr.cell? ⟨g, k + j, none⟩ = some (.int .u64 (zs.getD (k + j) 0)) := by rw [HB.out.cell]; exact HI.out.rest _ (by omega) hlt
            have c2 : wr.cell? ⟨g, k + (j - 1), none⟩ = some (.int .u64 (zs.getD (k + j - 1) 0)) := by
              rw [HB.out.cell, show k + (j - 1) = k + j - 1 by omega]; exact HI.out.rest _ (by omega) (by omega)
            have fz : ∀ i, wr.frozen? ⟨g, i, none⟩ = false := fun i => HB.out.frozen i
            have q1 : IntKind.i64.wrap ((j : Int) - 1) = ((j - 1 : Nat) : Int) := by rw [IntKind.wrap_i64]; omega
            have q2 : ((j - 1 : Nat) : Int) < ((zs.length - k : Nat) : Int) := by omega
            have q3 : (j : Int) < ((zs.length - k : Nat) : Int) := by omega
            have q4 : (k' : Int) < (zs.length : Int) := by omega
            have q5 : IntKind.i64.wrap ((j : Int) + 1) = ((j + 1 : Nat) : Int) := by rw [IntKind.wrap_i64]; omega
            have q6 : IntKind.i64.wrap ((k' : Int) + 1) = ((k' + 1 : Nat) : Int) := by rw [IntKind.wrap_i64]; omega
            by_cases he : zs.getD (k + j) 0 = zs.getD (k + j - 1) 0
            · have HI2 := Lib.hid (HI.out.skip (by omega) he)
              have hbe : ((zs.getD (k + j) 0) != (zs.getD (k + j - 1) 0)) = false := by rw [he]; simp
              generalize zs.getD (k + j) 0 = x at *
              generalize zs.getD (k + j - 1) 0 = y at *
              clear HI
              go_wp2_with fail
              go_quiet (fail)
              have HB1 := Lib.hid (HB.out.drewU nq)
              have HW1 := Lib.hid (grown_drewU HW.out nq)
              clear HB HW c1 c2 fz
              generalize wr.drewN nq = wq at *
              go_wp2_with fail
              go_roundw
              case rel => exact ⟨k', j + 1, cur, rfl, by go_num, by omega, by omega, by omega, by omega, HI2, HB1, HW1⟩
              case measure => simp [intOf]; omega
            · have HI2 := Lib.hid (HI.out.keep hlt hnc he)
              have hbe : ((zs.getD (k + j) 0) != (zs.getD (k + j - 1) 0)) = true := by simpa using he
              have hcl : k' < cur.length := by rw [HI.out.len]; omega
              generalize zs.getD (k + j) 0 = x at *
              generalize zs.getD (k + j - 1) 0 = y at *
              clear HI
              go_wp2_with fail
              go_quiet (fail)
              have HB1 := Lib.hid (HB.out.drewU nq)
              have HW1 := Lib.hid (grown_drewU HW.out nq)
              have c1 : (wr.drewN nq).cell? ⟨g, k + j, none⟩ = some (.int .u64 x) := c1
              have fz := HB1.out.frozen k'
              have g0 := (HB1.out.cell k').trans (List.getElem?_eq_getElem (by omega))
              generalize cur[k']'(by omega) = y0 at g0
              clear HB HW c2
              generalize wr.drewN nq = wq at *
              go_wp2_with fail
              go_roundw
              case rel => exact ⟨k' + 1, j + 1, cur.set k' (.int .u64 x), by go_num, by go_num, by omega, by omega, by omega, by omega, HI2, Lib.hid (HB1.out.set_ k' _), Lib.hid (grown_setU HW1.out k' _)⟩
              case measure => simp [intOf]; omega
          · obtain ⟨L, hL⟩ : ∃ L, L = zs.length - k := ⟨_, rfl⟩
            obtain rfl : j = L := by omega
            have hkj : k + j = zs.length := by omega
            rw [hkj] at HI hk'j
            have hcl := HI.out.len
            have hic := HI.out.cnt
            have hip := HI.out.pre
            obtain ⟨ys, hzl, hrun⟩ := run_clear_rowU (P := Tryz.prog) wr 74 95 (.int .u64 0) Tryz.underlying74 Tryz.zeroValue95 (fun u hu => by simp [Value.cells] at hu; subst hu; rfl) g k' (zs.length - k') (c - k') cur 95 HB.out (by omega) (by
              show k' + (zs.length - k') * 1 ≤ cur.length
              omega)
            have hzl3 : ys.length = (zs.length - k') * 1 := hzl
            simp only [List.append_assoc] at hrun
            have HR := Lib.hid hrun
            have HP : Hid (CompPostU B (.slice (some ⟨g, 0, none⟩) zs.length c) zs w (.returned (.slice (some ⟨g, 0, none⟩) k' c)) (wr.setRow g (cur.take k' ++ (ys ++ cur.drop (k' + ys.length))).toArray)) := Lib.hid (by
              have hg2 := setRow_heap wr g cur.toArray (cur.take k' ++ (ys ++ cur.drop (k' + ys.length))).toArray _ _ HB.out
              have htl : (cur.take k').length = k' := by rw [List.length_take]; omega
              have hic2 : (compU zs).length = k' := hic
              refine ⟨_, rfl, ?_, grown_rowU HW.out _, rfl⟩
              rw [hic2]
              refine ⟨by rw [List.length_map, hic2, Nat.mul_one], .inr ⟨g, c, _, rfl, hBg, hg2, by omega, by unfold maxLen; omega, ?_, ?_⟩⟩
              · simp only [List.size_toArray, List.length_append, List.length_drop, htl]
                omega
              · show List.take (k' * 1) _ = _
                rw [Nat.mul_one]
                exact (List.take_left' htl).trans hip)
            clear hrun hzl hzl3 hcl hic hip HI HB HW
            have hci : ¬ c = k' := by omega
            have hz1 : (k' : Int) ≤ (zs.length : Int) := by omega
            have hz2 : (k' : Int) ≤ (c : Int) := by omega
            go_wp2_with (with_reducible refine wpList_clear_runU _ rfl (.tmp 56) 74 rfl _ rfl (HR.out _) ?_)
            go_ret
            exact HP.out
      · have HF2 : Hid (∀ j, j < k + 1 → keepU zs j = true) := Lib.hid (fun j hj => by
          rcases Nat.lt_or_ge j k with h | h
          · exact HF.out j h
          · obtain rfl : j = k := by omega
            exact keepU_true he)
        have hbe := beq_falseU he
        have q5 : IntKind.i64.wrap ((k : Int) + 1) = ((k + 1 : Nat) : Int) := by rw [IntKind.wrap_i64]; omega
        have HW2 : Hid (∀ m, ∃ n, wr.drewN m = w.drewN n) := Lib.hid (fun m => by obtain ⟨n, rfl⟩ := HW.out; exact ⟨n + m, drew_addU w n m⟩)
        generalize zs.getD k 0 = a at *
        generalize zs.getD (k - 1) 0 = b at *
        clear HF HW
        go_wp2_with fail
        go_quiet (fail)
        have HW3 := Lib.hid (HW2.out nq)
        clear HB HW2 c1 c2
        generalize wr.drewN nq = wq at *
        go_wp2_with fail
        go_roundw
        case rel => exact ⟨k + 1, by omega, by omega, by go_num, HF2, HW3⟩
        case measure => simp [intOf]; omega
    · obtain rfl : k = zs.length := by omega
      have HP : Hid (CompPostU B (.slice (some ⟨g, 0, none⟩) zs.length c) zs w (.returned (.slice (some ⟨g, 0, none⟩) zs.length c)) wr) := Lib.hid (by
        obtain ⟨n, rfl⟩ := HW.out
        refine ⟨_, rfl, ?_, ⟨rfl, rfl, rfl, Nat.le_refl _, fun k _ _ => rfl⟩, rfl⟩
        rw [compU_whole HF.out]
        exact HO.out)
      clear HF HW
      go_wp2_with fail
      go_ret
      exact HP.out
end Go.Proofs.YtnkdcmibafjplaaGreatDoor
